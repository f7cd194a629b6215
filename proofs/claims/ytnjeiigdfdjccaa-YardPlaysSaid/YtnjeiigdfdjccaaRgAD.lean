/- The document's automaton: small calls. -/
import Derived.Test.YtnjeiigdfdjccaaAutBp
import Derived.Test.YtnjeiigdfdjccaaRfABC
import Derived.Deep.OwnRows
namespace Go.Proofs.Ytnjeiigdfdjccaa
open Go.RowKit
set_option linter.unusedVariables false
set_option linter.unusedSimpArgs false
theorem rpow_mod {n : Nat} (h : n < 32) : (2 : Int) ^ n % 4294967296 = ((2 ^ n : Nat) : Int) := by
  have h : 2 ^ n < 2 ^ 32 := Nat.pow_lt_pow_right (by omega) h
  have e : ((2 : Int) ^ n) = ((2 ^ n : Nat) : Int) := by simp
  rw [e]
  generalize 2 ^ n = p at *
  omega
theorem on_bit (x n : Nat) : (((x : Int) / ((2 ^ n : Nat) : Int)) % 2 == 1) = x.testBit n := by
  rw [Nat.testBit_eq_decide_div_mod_eq]
  have e : ((x : Int) / ((2 ^ n : Nat) : Int)) = ((x / 2 ^ n : Nat) : Int) := by simp
  rw [e]
  have := Nat.mod_two_eq_zero_or_one (x / 2 ^ n)
  have e2 : ((x / 2 ^ n : Nat) : Int) % 2 = ((x / 2 ^ n % 2 : Nat) : Int) := by omega
  rw [e2]
  rcases this with h | h <;> rw [h] <;> rfl
set_option maxHeartbeats 1000000 in
theorem ron_any (x n : Nat) (w : World) (hx : x < 4294967296) (hn : n < 32) :
    Calls Try.prog 72 #[.int .u32 (x : Int), .int .i64 (n : Int)] w fun e w' => e = .returned (.bool (x.testBit n)) ∧ w' = w := by
  have hq := rpow_mod hn
  have HB := Lib.hid (on_bit x n)
  have h0 : 0 < 2 ^ n := Nat.pow_pos (by omega)
  obtain ⟨q, hqd⟩ : ∃ q, q = 2 ^ n := ⟨_, rfl⟩
  rw [← hqd] at hq HB h0
  clear hqd
  go_enter Try.func72, Try.ntmps72
  go_wp2_with fail
  rw [HB.out]
  go_ret
  exact ⟨rfl, by first | trivial | rfl⟩
theorem ron_q (x n : Nat) (w : World) (hx : x < 4294967296) (hn : n < 32) (k : Nat) :
    Calls Try.prog 72 #[.int .u32 (x : Int), .int .i64 (n : Int)] (w.drewN k) fun e w' => e = .returned (.bool (x.testBit n)) ∧ ∃ m, w' = w.drewN m :=
  Calls.quiet_of_same (ron_any x n _ hx hn)
theorem rneed_any (p : Int × Bool) (w : World) :
    Calls Try.prog 75 #[.agg #[.int .i64 p.1, .bool p.2]] w fun e w' => e = .returned (.int .i64 (needP p : Int)) ∧ Below w.heap.size w w' := by
  obtain ⟨a, b⟩ := p
  simp only
  have B1 : Hid (Below w.heap.size w (w.alloc (.cells #[.int .i64 a, .bool b] 107))) := tb_alloc_below _ _
  cases b
  case true =>
    go_enter Try.func75, Try.ntmps75
    go_wp2_with fail
    go_ret
    exact ⟨rfl, B1.out⟩
  case false =>
    go_enter Try.func75, Try.ntmps75
    go_wp2_with fail
    go_ret
    exact ⟨rfl, B1.out⟩
theorem RG_drewN (w : World) (k : Nat) : Below w.heap.size w (w.drewN k) := ⟨rfl, rfl, rfl, Nat.le_refl _, fun _ _ => rfl⟩
def rprocB (f : FD) (t : Rt) : Bool := (t.tr.all fun x => bt f.cl x) && (t.pts.all fun p => seenB f p)
theorem all_no {α : Type} {l : List α} {d : α} {p : α → Bool} {k : Nat} (hk : k < l.length) (h : p (l.getD k d) = false) : l.all p = false := by
  rw [List.all_eq_false]
  refine ⟨l.getD k d, ?_, by rw [h]; decide⟩
  rw [List.getD_eq_getElem?_getD, List.getElem?_eq_getElem hk]; exact List.getElem_mem hk
theorem all_yes {α : Type} {l : List α} {d : α} {p : α → Bool} (h : ∀ j, j < l.length → p (l.getD j d) = true) : l.all p = true := by
  rw [List.all_eq_true]
  intro x hx
  obtain ⟨i, hi, rfl⟩ := List.mem_iff_getElem.1 hx
  have := h i hi
  rwa [List.getD_eq_getElem?_getD, List.getElem?_eq_getElem hi] at this
set_option maxRecDepth 100000 in
set_option maxHeartbeats 4000000 in
theorem rproc_any (v : Value) (A : Rt) (f : FD) (w : World) (hv : RVal w v A) (hf : f.Ok) (ht : ∀ i, i < A.tr.length → 0 ≤ A.tr.getD i 0 ∧ A.tr.getD i 0 < 32) (hp : ∀ i, i < A.pts.length → 0 ≤ (A.pts.getD i (0, false)).1 ∧ (A.pts.getD i (0, false)).1 < 32) :
    Calls Try.prog 55 #[v, .agg #[.int .u32 (f.cl : Int), .int .u32 (f.no : Int), .int .u32 (f.re : Int), .int .u32 (f.ak : Int), .int .u32 (f.ca : Int), .int .u32 (f.rq : Int)]] w fun e w' => e = .returned (.bool (rprocB f A)) ∧ Below w.heap.size w w' := by
  obtain ⟨⟨va1, va2, va4, rfl, hA1, hA2, _⟩, _, _, _⟩ := hv
  obtain ⟨⟨ta, tc, rfl, _, qa1, _⟩, _⟩ := id hA1
  obtain ⟨⟨pa, pc, rfl, _, qa2, _⟩, _⟩ := id hA2
  have sa1 := hA1.size; have sa2 := hA2.size
  unfold maxLen at qa1 qa2 sa1 sa2
  have HA1 := Lib.hid hA1; have HA2 := Lib.hid hA2; have HF := Lib.hid hf; have HT := Lib.hid ht; have HPP := Lib.hid hp
  obtain ⟨w1, hw1⟩ : ∃ w1, w1 = w.alloc (.cells #[.int .i64 A.sig, .slice ta A.tr.length tc, .slice pa A.pts.length pc, .int .i64 A.app, va4, .int .u16 (A.hold : Int)] 41) := ⟨_, rfl⟩
  have B1 : Hid (Below w.heap.size w w1) := by rw [hw1]; exact tb_alloc_below _ _
  have K1 : Hid (w1.heap[w.heap.size]? = some (.cells #[.int .i64 A.sig, .slice ta A.tr.length tc, .slice pa A.pts.length pc, .int .i64 A.app, va4, .int .u16 (A.hold : Int)] 41 (0, 0))) := by rw [hw1]; exact heap_alloc_new _ _
  obtain ⟨w2, hw2⟩ : ∃ w2, w2 = w1.alloc (.cells #[.int .u32 (f.cl : Int), .int .u32 (f.no : Int), .int .u32 (f.re : Int), .int .u32 (f.ak : Int), .int .u32 (f.ca : Int), .int .u32 (f.rq : Int)] 85) := ⟨_, rfl⟩
  have B12 : Hid (Below w1.heap.size w1 w2) := by rw [hw2]; exact tb_alloc_below _ _
  have KF2 : Hid (w2.heap[w1.heap.size]? = some (.cells #[.int .u32 (f.cl : Int), .int .u32 (f.no : Int), .int .u32 (f.re : Int), .int .u32 (f.ak : Int), .int .u32 (f.ca : Int), .int .u32 (f.rq : Int)] 85 (0, 0))) := by rw [hw2]; exact heap_alloc_new _ _
  have KA2 := Lib.hid (tb_kept K1.out B12.out)
  have BW2 : Hid (Below w.heap.size w w2) := B1.out.trans (B12.out.mono B1.out.size)
  have HW : Hid (w2 = (w.alloc (.cells #[.int .i64 A.sig, .slice ta A.tr.length tc, .slice pa A.pts.length pc, .int .i64 A.app, va4, .int .u16 (A.hold : Int)] 41)).alloc (.cells #[.int .u32 (f.cl : Int), .int .u32 (f.no : Int), .int .u32 (f.re : Int), .int .u32 (f.ak : Int), .int .u32 (f.ca : Int), .int .u32 (f.rq : Int)] 85)) := by show _ = _; rw [hw2, hw1]
  have Z1 : Hid (w1.heap.size = w.heap.size + 1) := by rw [hw1]; exact Array.size_push _
  rw [Z1.out] at KF2
  obtain ⟨ab, hab⟩ : ∃ b, b = w.heap.size := ⟨_, rfl⟩
  obtain ⟨fb, hfb⟩ : ∃ b, b = w.heap.size + 1 := ⟨_, rfl⟩
  have HNUM : Hid (w.heap.size + 1 = fb ∧ w.heap.size = ab) := ⟨hfb.symm, hab.symm⟩
  rw [← hfb] at KF2
  rw [← hab] at KA2
  obtain ⟨F, hF⟩ : ∃ F, F = rprocB f A := ⟨_, rfl⟩
  rw [← hF]
  have HFF : Hid (F = ((A.tr.all fun x => bt f.cl x) && (A.pts.all fun p => seenB f p))) := hF
  clear hF hw1 hw2 hab hfb K1 B1 B12 Z1 hA1 hA2 hf ht hp
  go_enter Try.func55, Try.ntmps55
  go_upto_region 1 with fail
  rw [← HW.out, HNUM.out.1, HNUM.out.2]
  clear HW HNUM
  go_wp2_with fail
  go_loopw [5] (fun i wr => ∃ k : Nat, k ≤ A.tr.length ∧ i = .int .i64 k ∧ (∀ j, j < k → bt f.cl (A.tr.getD j 0) = true) ∧ Below w2.heap.size w2 wr) (fun i _ => A.tr.length - (intOf i).toNat)
  case atStart => exact ⟨0, Nat.zero_le _, rfl, fun j hj => absurd hj (by omega), Below.refl _ _⟩
  case round =>
    obtain ⟨k, hk, rfl, hno, hb⟩ := hrel
    have NO := Lib.hid hno; have B3 := Lib.hid hb
    have BW : Hid (Below w.heap.size w wr) := BW2.out.trans (hb.mono BW2.out.size)
    clear hno hb
    have a1 := cell_row (j := 1) (tb_kept KA2.out B3.out) rfl; have f0 := cell_row (j := 0) (tb_kept KF2.out B3.out) rfl
    have la := heap_lt (tb_kept KA2.out B3.out); have lf := heap_lt (tb_kept KF2.out B3.out)
    by_cases hlt : k < A.tr.length
    case pos =>
      obtain ⟨b, off, rfl, hb, x0⟩ := (HA1.out.below BW.out).cell hlt
      obtain ⟨y, hy⟩ := Int.eq_ofNat_of_zero_le (HT.out k hlt).1
      have HC := Lib.hid (ron_q f.cl y wr HF.out.cl (by have := (HT.out k hlt).2; omega))
      have HNN : Hid (f.cl.testBit y = true → ∀ j, j < k + 1 → bt f.cl (A.tr.getD j 0) = true) := fun h j hj => by
        by_cases e : j < k
        · exact NO.out j e
        · obtain rfl : j = k := by omega
          rw [hy]; exact h
      have HNX : Hid (f.cl.testBit y = false → false = F) := fun h => by
        rw [HFF.out, all_no (p := fun x => bt f.cl x) hlt (by rw [hy]; exact h)]; rfl
      rw [hy] at x0
      clear hy
      generalize f.cl.testBit y = h at *
      go_upto_region 4 with fail
      cases h
      case false =>
        have HX := Lib.hid (HNX.out rfl)
        go_quiet ((go_at_call 72; (with_reducible exact HC.out _)))
        have B4 : Hid (Below w2.heap.size w2 (wr.drewN nq)) := B3.out.trans ((RG_drewN _ nq).mono B3.out.size)
        have BW4 : Hid (Below w.heap.size w (wr.drewN nq)) := BW.out.trans ((RG_drewN _ nq).mono BW.out.size)
        generalize wr.drewN nq = w4 at *
        clear a1 f0 la lf x0 hb HC
        go_wp2_with fail
        go_ret
        exact ⟨congrArg (fun x => Ending.returned (.bool x)) HX.out, BW4.out⟩
      case true =>
        have HX := Lib.hid (HNN.out rfl)
        go_quiet ((go_at_call 72; (with_reducible exact HC.out _)))
        have B4 : Hid (Below w2.heap.size w2 (wr.drewN nq)) := B3.out.trans ((RG_drewN _ nq).mono B3.out.size)
        have BW4 : Hid (Below w.heap.size w (wr.drewN nq)) := BW.out.trans ((RG_drewN _ nq).mono BW.out.size)
        generalize wr.drewN nq = w4 at *
        clear a1 f0 la lf x0 hb HC
        go_wp2_with fail
        go_roundw
        case rel => exact ⟨k + 1, by omega, by go_num, HX.out, B4.out⟩
        case measure => simp [intOf]; omega
    case neg =>
    obtain rfl : k = A.tr.length := by omega
    have HF2 : Hid (F = (A.pts.all fun p => seenB f p)) := by show _ = _; rw [HFF.out, all_yes (p := fun x => bt f.cl x) NO.out, Bool.true_and]
    clear HFF
    go_wp2_with fail
    clear a1 f0 la lf NO
    go_loopw [6, 7] (fun i _x wr => ∃ k : Nat, k ≤ A.pts.length ∧ i = .int .i64 k ∧ (∀ j, j < k → seenB f (A.pts.getD j (0, false)) = true) ∧ Below w2.heap.size w2 wr) (fun i _ _ => A.pts.length - (intOf i).toNat)
    case atStart => exact ⟨0, Nat.zero_le _, rfl, fun j hj => absurd hj (by omega), B3.out⟩
    case round =>
      clear B3 BW
      obtain ⟨k, hk, rfl, hno, hb⟩ := hrel
      have NO := Lib.hid hno; have B3 := Lib.hid hb
      have BW : Hid (Below w.heap.size w wr) := BW2.out.trans (hb.mono BW2.out.size)
      clear hno hb
      have a2 := cell_row (j := 2) (tb_kept KA2.out B3.out) rfl
      have la := heap_lt (tb_kept KA2.out B3.out)
      by_cases hlt : k < A.pts.length
      case pos =>
        obtain ⟨b, off, rfl, hb, x0, x1⟩ := (HA2.out.below BW.out).cell hlt
        have hpp := HPP.out k hlt
        have HNN : Hid (seenB f (A.pts.getD k (0, false)) = true → ∀ j, j < k + 1 → seenB f (A.pts.getD j (0, false)) = true) := fun h j hj => by
          by_cases e : j < k
          · exact NO.out j e
          · obtain rfl : j = k := by omega
            exact h
        have HNX : Hid (seenB f (A.pts.getD k (0, false)) = false → false = F) := fun h => by
          rw [HF2.out, all_no (p := fun p => seenB f p) hlt h]
        have HS : Hid (seenB f (A.pts.getD k (0, false)) = ((bt f.no (A.pts.getD k (0, false)).1 == !(A.pts.getD k (0, false)).2) && (bt f.re (A.pts.getD k (0, false)).1 == (A.pts.getD k (0, false)).2))) := rfl
        generalize seenB f (A.pts.getD k (0, false)) = r at *
        generalize A.pts.getD k (0, false) = p at *
        obtain ⟨y, z⟩ := p
        simp only at x0 x1 hpp HS
        obtain ⟨y, rfl⟩ := Int.eq_ofNat_of_zero_le hpp.1
        have hy32 : y < 32 := by have := hpp.2; omega
        obtain ⟨w5, hw5⟩ : ∃ W, W = wr.alloc (.cells #[.int .i64 (y : Int), .bool z] 107) := ⟨_, rfl⟩
        have B45 : Hid (Below wr.heap.size wr w5) := by rw [hw5]; exact tb_alloc_below _ _
        have KP5 : Hid (w5.heap[wr.heap.size]? = some (.cells #[.int .i64 (y : Int), .bool z] 107 (0, 0))) := by rw [hw5]; exact heap_alloc_new _ _
        have B5 : Hid (Below w2.heap.size w2 w5) := B3.out.trans (B45.out.mono B3.out.size)
        have HW5 := Lib.hid hw5
        have HC1 := Lib.hid (ron_q f.no y w5 HF.out.no hy32)
        have HC2 := Lib.hid (ron_q f.re y w5 HF.out.re hy32)
        have HS2 : Hid (r = ((f.no.testBit y == !z) && (f.re.testBit y == z))) := HS.out
        generalize f.no.testBit y = e1 at *
        generalize f.re.testBit y = e2 at *
        clear hw5 hpp HS
        go_upto_region 10 with fail
        rw [← HW5.out]
        clear x0 x1 hb HW5 a2 la
        obtain ⟨xb, hxb⟩ : ∃ ab, ab = wr.heap.size := ⟨_, rfl⟩
        rw [← hxb] at KP5 ⊢
        clear hxb
        have f1 := cell_row (j := 1) (tb_kept KF2.out B5.out) rfl; have f2 := cell_row (j := 2) (tb_kept KF2.out B5.out) rfl
        have p0 := cell_row (j := 0) KP5.out rfl; have p1 := cell_row (j := 1) KP5.out rfl
        have lf := heap_lt (tb_kept KF2.out B5.out); have lp := heap_lt KP5.out
        cases z
        case false =>
          cases e1
          case false =>
            have HX := Lib.hid (HNX.out HS2.out)
            go_quiet ((go_at_call 72; first | (with_reducible exact HC1.out _) | (with_reducible exact HC2.out _)))
            have B6 : Hid (Below w2.heap.size w2 (w5.drewN nq)) := B5.out.trans ((RG_drewN _ nq).mono B5.out.size)
            have BW6 : Hid (Below w.heap.size w (w5.drewN nq)) := BW2.out.trans (B6.out.mono BW2.out.size)
            generalize w5.drewN nq = w6 at *
            clear f1 f2 p0 p1 lf lp HC1 HC2 KP5
            go_wp2_with fail
            go_ret
            exact ⟨congrArg (fun x => Ending.returned (.bool x)) HX.out, BW6.out⟩
          case true =>
            cases e2
            case false =>
              have HX := Lib.hid (HNN.out HS2.out)
              go_quiet ((go_at_call 72; first | (with_reducible exact HC1.out _) | (with_reducible exact HC2.out _)))
              have B6 : Hid (Below w2.heap.size w2 (w5.drewN nq)) := B5.out.trans ((RG_drewN _ nq).mono B5.out.size)
              have BW6 : Hid (Below w.heap.size w (w5.drewN nq)) := BW2.out.trans (B6.out.mono BW2.out.size)
              generalize w5.drewN nq = w6 at *
              clear f1 f2 p0 p1 lf lp HC1 HC2 KP5
              go_wp2_with fail
              go_roundw
              case rel => exact ⟨k + 1, by omega, by go_num, HX.out, B6.out⟩
              case measure => simp [intOf]; omega
            case true =>
              have HX := Lib.hid (HNX.out HS2.out)
              go_quiet ((go_at_call 72; first | (with_reducible exact HC1.out _) | (with_reducible exact HC2.out _)))
              have B6 : Hid (Below w2.heap.size w2 (w5.drewN nq)) := B5.out.trans ((RG_drewN _ nq).mono B5.out.size)
              have BW6 : Hid (Below w.heap.size w (w5.drewN nq)) := BW2.out.trans (B6.out.mono BW2.out.size)
              generalize w5.drewN nq = w6 at *
              clear f1 f2 p0 p1 lf lp HC1 HC2 KP5
              go_wp2_with fail
              go_ret
              exact ⟨congrArg (fun x => Ending.returned (.bool x)) HX.out, BW6.out⟩
        case true =>
          cases e1
          case true =>
            have HX := Lib.hid (HNX.out HS2.out)
            go_quiet ((go_at_call 72; first | (with_reducible exact HC1.out _) | (with_reducible exact HC2.out _)))
            have B6 : Hid (Below w2.heap.size w2 (w5.drewN nq)) := B5.out.trans ((RG_drewN _ nq).mono B5.out.size)
            have BW6 : Hid (Below w.heap.size w (w5.drewN nq)) := BW2.out.trans (B6.out.mono BW2.out.size)
            generalize w5.drewN nq = w6 at *
            clear f1 f2 p0 p1 lf lp HC1 HC2 KP5
            go_wp2_with fail
            go_ret
            exact ⟨congrArg (fun x => Ending.returned (.bool x)) HX.out, BW6.out⟩
          case false =>
            cases e2
            case true =>
              have HX := Lib.hid (HNN.out HS2.out)
              go_quiet ((go_at_call 72; first | (with_reducible exact HC1.out _) | (with_reducible exact HC2.out _)))
              have B6 : Hid (Below w2.heap.size w2 (w5.drewN nq)) := B5.out.trans ((RG_drewN _ nq).mono B5.out.size)
              have BW6 : Hid (Below w.heap.size w (w5.drewN nq)) := BW2.out.trans (B6.out.mono BW2.out.size)
              generalize w5.drewN nq = w6 at *
              clear f1 f2 p0 p1 lf lp HC1 HC2 KP5
              go_wp2_with fail
              go_roundw
              case rel => exact ⟨k + 1, by omega, by go_num, HX.out, B6.out⟩
              case measure => simp [intOf]; omega
            case false =>
              have HX := Lib.hid (HNX.out HS2.out)
              go_quiet ((go_at_call 72; first | (with_reducible exact HC1.out _) | (with_reducible exact HC2.out _)))
              have B6 : Hid (Below w2.heap.size w2 (w5.drewN nq)) := B5.out.trans ((RG_drewN _ nq).mono B5.out.size)
              have BW6 : Hid (Below w.heap.size w (w5.drewN nq)) := BW2.out.trans (B6.out.mono BW2.out.size)
              generalize w5.drewN nq = w6 at *
              clear f1 f2 p0 p1 lf lp HC1 HC2 KP5
              go_wp2_with fail
              go_ret
              exact ⟨congrArg (fun x => Ending.returned (.bool x)) HX.out, BW6.out⟩
      case neg =>
      obtain rfl : k = A.pts.length := by omega
      have HX : Hid (true = F) := by show _ = _; rw [HF2.out, all_yes (p := fun p => seenB f p) NO.out]
      go_wp2_with fail
      go_ret
      exact ⟨congrArg (fun x => Ending.returned (.bool x)) HX.out, BW.out⟩
end Go.Proofs.Ytnjeiigdfdjccaa
/- The document's automaton: a train comes, and goes on. -/
namespace Go.Proofs.Ytnjeiigdfdjccaa
open Go.RowKit
set_option linter.unusedVariables false
set_option linter.unusedSimpArgs false
def bitsV (x i : Nat) : Value := .bool (x.testBit i)
theorem infoB : (Try.prog.info? 4).map (fun i => (i.zero, i.size, i.bytes)) = some (some (.bool false), 1, 1) := by kernel_rfl
/-- What lies while a train goes on. -/
structure TrW (w0 w1 wr : World) (fb rb ub lb : Nat) (FV : Array Value) (V : Nat → Value) (m L us rl : Nat) : Prop where
  f : wr.heap[fb]? = some (.cells FV 85 (0, 0))
  r : RowAt wr rb 105 m V
  u : RowAt wr ub 4 L (bitsV us)
  l : RowAt wr lb 4 L (bitsV rl)
  bel : Below w0.heap.size w0 wr
  only : Only (fun b => b = rb ∨ b = ub ∨ b = lb) w1 wr
theorem TrW.below {w0 w1 wr wv : World} {fb rb ub lb : Nat} {FV : Array Value} {V : Nat → Value} {m L us rl : Nat} (h : TrW w0 w1 wr fb rb ub lb FV V m L us rl) (hb : Below wr.heap.size wr wv) : TrW w0 w1 wv fb rb ub lb FV V m L us rl :=
  ⟨tb_kept h.f hb, h.r.same (hb.block _ h.r.lt), h.u.same (hb.block _ h.u.lt), h.l.same (hb.block _ h.l.lt), h.bel.trans (hb.mono h.bel.size), h.only.trans (Only.of_below _ hb)⟩
/-- The blocks lie apart. -/
structure TrA (w0 : World) (fb rb ub lb : Nat) : Prop where
  fr : fb ≠ rb
  fu : fb ≠ ub
  fl : fb ≠ lb
  ru : rb ≠ ub
  rl : rb ≠ lb
  ul : ub ≠ lb
  r0 : w0.heap.size ≤ rb
  u0 : w0.heap.size ≤ ub
  l0 : w0.heap.size ≤ lb
theorem below_set {n : Nat} {a w : World} (h : Below n a w) {g : Nat} (o : Nat) (v : Value) (hg : n ≤ g) : Below n a (w.setCell ⟨g, o, none⟩ v) :=
  ⟨h.os, h.tape, h.output, by simpa [World.setCell] using h.size, fun i hi => (heap_setCell_other _ _ _ _ (show i ≠ g by omega)).trans (h.block i hi)⟩
theorem TrW.setU {w0 w1 wr : World} {fb rb ub lb : Nat} {FV : Array Value} {V : Nat → Value} {m L us rl : Nat} (h : TrW w0 w1 wr fb rb ub lb FV V m L us rl) (ha : TrA w0 fb rb ub lb) {k us' : Nat} (v : Bool) (he : ∀ j, j < L → us'.testBit j = if j = k then v else us.testBit j) :
    TrW w0 w1 (wr.setCell ⟨ub, k, none⟩ (.bool v)) fb rb ub lb FV V m L us' rl :=
  ⟨(heap_setCell_other _ _ _ _ ha.fu).trans h.f, h.r.other ha.ru _, (h.u.set (i := k) (.bool v)).congr fun j hj => by
    show (if j = k then _ else bitsV us j) = Value.bool (us'.testBit j)
    rw [he j hj]
    split <;> rfl, h.l.other (Ne.symm ha.ul) _, below_set h.bel _ _ ha.u0, h.only.set _ _ (.inr (.inr (.inl rfl)))⟩
theorem TrW.setL {w0 w1 wr : World} {fb rb ub lb : Nat} {FV : Array Value} {V : Nat → Value} {m L us rl : Nat} (h : TrW w0 w1 wr fb rb ub lb FV V m L us rl) (ha : TrA w0 fb rb ub lb) {k rl' : Nat} (v : Bool) (he : ∀ j, j < L → rl'.testBit j = if j = k then v else rl.testBit j) :
    TrW w0 w1 (wr.setCell ⟨lb, k, none⟩ (.bool v)) fb rb ub lb FV V m L us rl' :=
  ⟨(heap_setCell_other _ _ _ _ ha.fl).trans h.f, h.r.other ha.rl _, h.u.other ha.ul _, (h.l.set (i := k) (.bool v)).congr fun j hj => by
    show (if j = k then _ else bitsV rl j) = Value.bool (rl'.testBit j)
    rw [he j hj]
    split <;> rfl, below_set h.bel _ _ ha.l0, h.only.set _ _ (.inr (.inr (.inr rfl)))⟩
theorem usedN_bit7 (f : FD) (l : List Int) (u k : Nat) (j : Nat) : (usedN f l u (k + 1)).testBit j = if j = k then ((usedN f l u k).testBit k || !bt f.cl (l.getD k 0)) else (usedN f l u k).testBit j := by
  show (if bt f.cl (l.getD k 0) then usedN f l u k else usedN f l u k ||| 2 ^ k).testBit j = _
  cases bt f.cl (l.getD k 0)
  · rw [if_neg (by decide), Nat.testBit_or, Nat.testBit_two_pow]
    by_cases e : j = k
    · subst e; simp
    · rw [if_neg e]
      have : decide (k = j) = false := by simp; omega
      rw [this, Bool.or_false]
  · rw [if_pos rfl]
    by_cases e : j = k
    · subst e; simp
    · rw [if_neg e]
/-- A section is released in this frame. -/
def relB (f : FD) (l : List Int) (us x k : Nat) : Bool := (k == 0 || x.testBit (k - 1)) && us.testBit k && bt f.cl (l.getD k 0) && (k + 1 == l.length || us.testBit (k + 1))
theorem relN_bit (f : FD) (l : List Int) (us x k : Nat) (j : Nat) : (relN f l us x (k + 1)).testBit j = if j = k then ((relN f l us x k).testBit k || relB f l us (relN f l us x k) k) else (relN f l us x k).testBit j := by
  have e0 : relN f l us x (k + 1) = if relB f l us (relN f l us x k) k then relN f l us x k ||| 2 ^ k else relN f l us x k := rfl
  rw [e0]
  cases relB f l us (relN f l us x k) k
  · rw [if_neg (by decide)]
    by_cases e : j = k
    · subst e; simp
    · rw [if_neg e]
  · rw [if_pos rfl, Nat.testBit_or, Nat.testBit_two_pow]
    by_cases e : j = k
    · subst e; simp
    · rw [if_neg e]
      have : decide (k = j) = false := by simp; omega
      rw [this, Bool.or_false]
theorem full_iff {x L : Nat} (h : x < 2 ^ L) : x = 2 ^ L - 1 ↔ ∀ j, j < L → x.testBit j = true := by
  constructor
  · rintro rfl j hj
    rw [Nat.testBit_two_pow_sub_one]; simpa using hj
  · intro hx
    apply Nat.eq_of_testBit_eq
    intro j
    rw [Nat.testBit_two_pow_sub_one]
    by_cases hj : j < L
    · rw [hx j hj]; simp [hj]
    · rw [Nat.testBit_lt_two_pow (Nat.lt_of_lt_of_le h (Nat.pow_le_pow_right (by omega) (by omega)))]
      simp [hj]
theorem usedN_lt2 (f : FD) (l : List Int) {u L : Nat} (h : u < 2 ^ L) : ∀ k, k ≤ L → usedN f l u k < 2 ^ L
  | 0, _ => h
  | k + 1, hk => by
    have ih := usedN_lt2 f l h k (by omega)
    show (if bt f.cl (l.getD k 0) then _ else _) < _
    split
    · exact ih
    · exact Nat.or_lt_two_pow ih (Nat.pow_lt_pow_right (by omega) (by omega))
theorem relN_lt2 (f : FD) (l : List Int) {us x L : Nat} (h : x < 2 ^ L) : ∀ k, k ≤ L → relN f l us x k < 2 ^ L
  | 0, _ => h
  | k + 1, hk => by
    have ih := relN_lt2 f l (us := us) h k (by omega)
    simp only [relN]
    split
    · exact Nat.or_lt_two_pow ih (Nat.pow_lt_pow_right (by omega) (by omega))
    · exact ih
set_option maxRecDepth 100000 in
set_option maxHeartbeats 8000000 in
theorem rtrain_any (f : FD) (l : List Int) (V : Nat → Value) (m n L us rl rb ub lb : Nat) (vl : Value) (w0 w : World) (hl : IntsAt w0 vl l) (hL : L = l.length) (hL24 : L ≤ 24) (ht : ∀ i, i < l.length → 0 ≤ l.getD i 0 ∧ l.getD i 0 < 32) (hf : f.Ok)
    (hr : RowAt w rb 105 m V) (hm : n * 4 + 3 < m) (hv2 : V (n * 4 + 2) = .slice (some ⟨ub, 0, none⟩) L L) (hv3 : V (n * 4 + 3) = .slice (some ⟨lb, 0, none⟩) L L) (hu : RowAt w ub 4 L (bitsV us)) (hlr : RowAt w lb 4 L (bitsV rl))
    (h1 : rb ≠ ub) (h2 : rb ≠ lb) (h3 : ub ≠ lb) (h4 : w0.heap.size ≤ rb) (h5 : w0.heap.size ≤ ub) (h6 : w0.heap.size ≤ lb) (hb : Below w0.heap.size w0 w) (hus : us < 2 ^ L) (hrl : rl < 2 ^ L) :
    Calls Try.prog 74 #[.pointer (some ⟨rb, n * 4, none⟩), vl, .agg #[.int .u32 (f.cl : Int), .int .u32 (f.no : Int), .int .u32 (f.re : Int), .int .u32 (f.ak : Int), .int .u32 (f.ca : Int), .int .u32 (f.rq : Int)]] w fun e w' => e = .returned (.tuple #[]) ∧ Only (fun b => b = rb ∨ b = ub ∨ b = lb) w w' ∧
      (relN f l (usedN f l us L) rl L = 2 ^ L - 1 → RowAt w' rb 105 m (fun q => if q = n * 4 then .int .i64 0 else if q = n * 4 + 1 then .int .i64 0 else if q = n * 4 + 2 then .slice none 0 0 else if q = n * 4 + 3 then .slice none 0 0 else V q)) ∧
      (relN f l (usedN f l us L) rl L ≠ 2 ^ L - 1 → RowAt w' rb 105 m V ∧ RowAt w' ub 4 L (bitsV (usedN f l us L)) ∧ RowAt w' lb 4 L (bitsV (relN f l (usedN f l us L) rl L))) := by
  subst hL
  obtain ⟨⟨ta, tc, rfl, _, htc, _⟩, _⟩ := id hl
  unfold maxLen at htc
  have HL := Lib.hid hl; have HT := Lib.hid ht; have HF := Lib.hid hf; have HV2 := Lib.hid hv2; have HV3 := Lib.hid hv3; have HM := Lib.hid hm
  have HUS := Lib.hid hus; have HRL := Lib.hid hrl
  obtain ⟨w1, hw1⟩ : ∃ w1, w1 = w.alloc (.cells #[.int .u32 (f.cl : Int), .int .u32 (f.no : Int), .int .u32 (f.re : Int), .int .u32 (f.ak : Int), .int .u32 (f.ca : Int), .int .u32 (f.rq : Int)] 85) := ⟨_, rfl⟩
  have B1 : Hid (Below w.heap.size w w1) := by rw [hw1]; exact tb_alloc_below _ _
  have K1 : Hid (w1.heap[w.heap.size]? = some (.cells #[.int .u32 (f.cl : Int), .int .u32 (f.no : Int), .int .u32 (f.re : Int), .int .u32 (f.ak : Int), .int .u32 (f.ca : Int), .int .u32 (f.rq : Int)] 85 (0, 0))) := by rw [hw1]; exact heap_alloc_new _ _
  have HW1 := Lib.hid hw1
  have TA : Hid (TrA w0 w.heap.size rb ub lb) := ⟨by have := hr.lt; omega, by have := hu.lt; omega, by have := hlr.lt; omega, h1, h2, h3, h4, h5, h6⟩
  have T1 : Hid (TrW w0 w1 w1 w.heap.size rb ub lb #[.int .u32 (f.cl : Int), .int .u32 (f.no : Int), .int .u32 (f.re : Int), .int .u32 (f.ak : Int), .int .u32 (f.ca : Int), .int .u32 (f.rq : Int)] V m l.length us rl) := ⟨K1.out, hr.same (B1.out.block _ hr.lt), hu.same (B1.out.block _ hu.lt), hlr.same (B1.out.block _ hlr.lt), hb.trans (B1.out.mono hb.size), Only.refl _ _⟩
  obtain ⟨fb, hfb⟩ : ∃ b, b = w.heap.size := ⟨_, rfl⟩
  have HFB := Lib.hid hfb
  rw [← hfb] at T1 TA
  have HON : Hid (∀ (x n : Nat) (W : World), x < 4294967296 → n < 32 → Calls Try.prog 72 #[.int .u32 (x : Int), .int .i64 (n : Int)] W fun e w' => e = .returned (.bool (x.testBit n)) ∧ Below W.heap.size W w') := fun x n W hx hn => (ron_any x n W hx hn).mono fun e w' ⟨he, hw⟩ => ⟨he, by rw [hw]; exact Below.refl _ _⟩
  obtain ⟨US, hUS⟩ : ∃ x, x = usedN f l us l.length := ⟨_, rfl⟩
  have HU := Lib.hid hUS
  rw [← hUS]
  clear hw1 K1 hl ht hf hv2 hv3 hm hr hu hlr h1 h2 h3 h4 h5 h6 hb hus hrl hfb hUS
  go_enter Try.func74, Try.ntmps74
  go_upto_region 1 with fail
  rw [← HW1.out, ← HFB.out]
  clear HW1
  go_wp2_with fail
  go_loopw [6] (fun i wr => ∃ k : Nat, k ≤ l.length ∧ i = .int .i64 k ∧ TrW w0 w1 wr fb rb ub lb #[.int .u32 (f.cl : Int), .int .u32 (f.no : Int), .int .u32 (f.re : Int), .int .u32 (f.ak : Int), .int .u32 (f.ca : Int), .int .u32 (f.rq : Int)] V m l.length (usedN f l us k) rl) (fun i _ => l.length - (intOf i).toNat)
  case atStart => exact ⟨0, Nat.zero_le _, rfl, T1.out⟩
  case round =>
    clear T1
    obtain ⟨k, hk, rfl, hp⟩ := hrel
    have T2 := Lib.hid hp
    clear hp
    by_cases hlt : k < l.length
    case pos =>
      obtain ⟨b, off, rfl, hb, x0⟩ := (HL.out.below T2.out.bel).cell hlt
      obtain ⟨y, hy⟩ := Int.eq_ofNat_of_zero_le (HT.out k hlt).1
      have hy32 : y < 32 := by have := (HT.out k hlt).2; omega
      rw [hy] at x0
      have r2 : wr.cell? ⟨rb, n * 4 + 2, none⟩ = some (.slice (some ⟨ub, 0, none⟩) l.length l.length) := by rw [← HV2.out]; exact T2.out.r.cell (by have := HM.out; omega)
      have u0 : wr.cell? ⟨ub, k, none⟩ = some (.bool ((usedN f l us k).testBit k)) := T2.out.u.cell hlt
      have f0 := cell_row (j := 0) T2.out.f rfl
      have lr := T2.out.r.lt; have lu := T2.out.u.lt; have lf := heap_lt T2.out.f
      have HBIT : Hid (∀ j, j < l.length → (usedN f l us (k + 1)).testBit j = if j = k then ((usedN f l us k).testBit k || !f.cl.testBit y) else (usedN f l us k).testBit j) := fun j _ => by rw [usedN_bit7, hy]; rfl
      generalize hu1 : usedN f l us (k + 1) = u1 at *
      have HUE := Lib.hid hu1
      clear hu1
      generalize usedN f l us k = u0' at *
      generalize hb0 : u0'.testBit k = b0 at *
      generalize hh : f.cl.testBit y = h at *
      go_upto_region 4 with fail
      have HB0 := Lib.hid hb0
      have HH : Hid (∀ W, Calls Try.prog 72 #[.int .u32 (f.cl : Int), .int .i64 (y : Int)] W fun e w' => e = .returned (.bool h) ∧ Below W.heap.size W w') := fun W => by rw [← hh]; exact HON.out _ _ W HF.out.cl hy32
      clear hb0 hy hh
      cases b0
      case true =>
        obtain ⟨U, fU, hUn, hU1, hU2⟩ := class_of (fun V => Below wr.heap.size wr V) (W := wr.drew) ⟨rfl, rfl, rfl, Nat.le_refl _, fun _ _ => rfl⟩
        have HU1 := Lib.hid hU1; have HU2 := Lib.hid hU2
        clear hU1 hU2
        have hfm : (Try.prog).follows .mixedOrders = true := by kernel_rfl
        obtain ⟨q, hd1⟩ : ∃ q : Nat, 1 ≤ q := ⟨1, Nat.le_refl _⟩
        have z0 := fun uu => ((HU1.out uu).cell hb).trans x0
        have z1 := fun uu => ((HU1.out uu).cell lr).trans r2
        have z2 := fun uu => ((HU1.out uu).cell lu).trans u0
        have z3 := fun uu => ((HU1.out uu).cell lf).trans f0
        have h0_HR : ∀ uu, Calls Try.prog 72 #[.int .u32 (f.cl : Int), .int .i64 (y : Int)] (fU uu) fun e w' => e = .returned (.bool h) ∧ Below (fU uu).heap.size (fU uu) w' := fun uu => HH.out (fU uu)
        have HR : Hid (∀ uu, CallsIn Fence.wide (q - 1) Try.prog 72 #[.int .u32 (f.cl : Int), .int .i64 (y : Int)] (fU uu) fun e w' => e = .returned (.bool h) ∧ ∃ uu', w' = fU uu') := fun uu => (callsIn_wide.2 (h0_HR uu)).mono (fun e w' ⟨he, hb⟩ => ⟨he, HU2.out _ ((HU1.out uu).trans (hb.mono (HU1.out uu).size))⟩)
        have hf_HR : Fence.wide.fn 72 := trivial
        clear h0_HR
        clear x0 r2 u0 f0 hb lr lu lf
        refine (wpIn_wide (n := q)).1 ?_
        refine wpIn_region_tail_at 23 fU hfm rfl (by kernel_rfl) (HU2.out _ ⟨rfl, rfl, rfl, Nat.le_refl _, fun _ _ => rfl⟩) ?_
        simp only [List.take_succ_cons, List.take_zero, List.getD_cons_succ, List.getD_cons_zero]
        repeat (gi_big_quiet_step ((gi_at_call 72; (with_reducible exact HR.out _))))
        refine wpQuietIn_nil ?_
        intro uu
        have T3 := Lib.hid (T2.out.below (HU1.out uu))
        clear z0 z1 z2 z3 HU1 HU2 HR
        generalize fU uu = w3 at *
        have u0 : w3.cell? ⟨ub, k, none⟩ = some (.bool (u0'.testBit k)) := T3.out.u.cell hlt
        have fr := T3.out.u.frozen k
        have T4 := Lib.hid (T3.out.setU TA.out (k := k) (us' := u1) true (fun j hj => by rw [HBIT.out j hj]; simp))
        unfold Oper.wpIn
        go_simp
        generalize w3.setCell ⟨ub, k, none⟩ (.bool true) = w4 at *
        clear u0 fr T3
        go_wp2_with fail
        go_roundw
        case rel => exact ⟨k + 1, by omega, by go_num, by rw [HUE.out]; exact T4.out⟩
        case measure => simp [intOf]; omega
      case false =>
        obtain ⟨U, fU, hUn, hU1, hU2⟩ := class_of (fun V => Below wr.heap.size wr V) (W := wr.drew) ⟨rfl, rfl, rfl, Nat.le_refl _, fun _ _ => rfl⟩
        have HU1 := Lib.hid hU1; have HU2 := Lib.hid hU2
        clear hU1 hU2
        have hfm : (Try.prog).follows .mixedOrders = true := by kernel_rfl
        obtain ⟨q, hd1⟩ : ∃ q : Nat, 1 ≤ q := ⟨1, Nat.le_refl _⟩
        have z0 := fun uu => ((HU1.out uu).cell hb).trans x0
        have z1 := fun uu => ((HU1.out uu).cell lr).trans r2
        have z2 := fun uu => ((HU1.out uu).cell lu).trans u0
        have z3 := fun uu => ((HU1.out uu).cell lf).trans f0
        have h0_HR : ∀ uu, Calls Try.prog 72 #[.int .u32 (f.cl : Int), .int .i64 (y : Int)] (fU uu) fun e w' => e = .returned (.bool h) ∧ Below (fU uu).heap.size (fU uu) w' := fun uu => HH.out (fU uu)
        have HR : Hid (∀ uu, CallsIn Fence.wide (q - 1) Try.prog 72 #[.int .u32 (f.cl : Int), .int .i64 (y : Int)] (fU uu) fun e w' => e = .returned (.bool h) ∧ ∃ uu', w' = fU uu') := fun uu => (callsIn_wide.2 (h0_HR uu)).mono (fun e w' ⟨he, hb⟩ => ⟨he, HU2.out _ ((HU1.out uu).trans (hb.mono (HU1.out uu).size))⟩)
        have hf_HR : Fence.wide.fn 72 := trivial
        clear h0_HR
        clear x0 r2 u0 f0 hb lr lu lf
        refine (wpIn_wide (n := q)).1 ?_
        refine wpIn_region_tail_at 23 fU hfm rfl (by kernel_rfl) (HU2.out _ ⟨rfl, rfl, rfl, Nat.le_refl _, fun _ _ => rfl⟩) ?_
        simp only [List.take_succ_cons, List.take_zero, List.getD_cons_succ, List.getD_cons_zero]
        repeat (gi_big_quiet_step ((gi_at_call 72; (with_reducible exact HR.out _))))
        refine wpQuietIn_nil ?_
        intro uu
        have T3 := Lib.hid (T2.out.below (HU1.out uu))
        clear z0 z1 z2 z3 HU1 HU2 HR
        generalize fU uu = w3 at *
        have u0 : w3.cell? ⟨ub, k, none⟩ = some (.bool (u0'.testBit k)) := T3.out.u.cell hlt
        have fr := T3.out.u.frozen k
        have T4 := Lib.hid (T3.out.setU TA.out (k := k) (us' := u1) (!h) (fun j hj => by rw [HBIT.out j hj]; simp))
        unfold Oper.wpIn
        go_simp
        generalize w3.setCell ⟨ub, k, none⟩ (.bool (!h)) = w4 at *
        clear u0 fr T3
        go_wp2_with fail
        go_roundw
        case rel => exact ⟨k + 1, by omega, by go_num, by rw [HUE.out]; exact T4.out⟩
        case measure => simp [intOf]; omega
    case neg =>
    obtain rfl : k = l.length := by omega
    rw [← HU.out] at T2
    have HUSL : Hid (US < 2 ^ l.length) := by show _ < _; rw [HU.out]; exact usedN_lt2 f l HUS.out _ (Nat.le_refl _)
    clear HUS HU
    go_wp2_with fail
    go_loopw [7, 8] (fun g i wr => ∃ k : Nat, k ≤ l.length ∧ g = .bool (k == 0 || (relN f l US rl k).testBit (k - 1)) ∧ i = .int .i64 k ∧ TrW w0 w1 wr fb rb ub lb #[.int .u32 (f.cl : Int), .int .u32 (f.no : Int), .int .u32 (f.re : Int), .int .u32 (f.ak : Int), .int .u32 (f.ca : Int), .int .u32 (f.rq : Int)] V m l.length US (relN f l US rl k)) (fun _ i _ => l.length - (intOf i).toNat)
    case atStart => exact ⟨0, Nat.zero_le _, rfl, rfl, T2.out⟩
    case round =>
      clear T2
      obtain ⟨k, hk, rfl, rfl, hp⟩ := hrel
      have T2 := Lib.hid hp
      clear hp
      by_cases hlt : k < l.length
      case pos =>
        obtain ⟨b, off, rfl, hb, x0⟩ := (HL.out.below T2.out.bel).cell hlt
        obtain ⟨y, hy⟩ := Int.eq_ofNat_of_zero_le (HT.out k hlt).1
        have hy32 : y < 32 := by have := (HT.out k hlt).2; omega
        rw [hy] at x0
        have r2 : wr.cell? ⟨rb, n * 4 + 2, none⟩ = some (.slice (some ⟨ub, 0, none⟩) l.length l.length) := by rw [← HV2.out]; exact T2.out.r.cell (by have := HM.out; omega)
        have u0 : wr.cell? ⟨ub, k, none⟩ = some (.bool (US.testBit k)) := T2.out.u.cell hlt
        have f0 := cell_row (j := 0) T2.out.f rfl
        have lr := T2.out.r.lt; have lu := T2.out.u.lt; have lf := heap_lt T2.out.f
        have HBIT : Hid (∀ r, relB f l US (relN f l US rl k) k = r → ∀ j, j < l.length → (relN f l US rl (k + 1)).testBit j = if j = k then ((relN f l US rl k).testBit k || r) else (relN f l US rl k).testBit j) := fun r h j _ => by rw [relN_bit, h]
        have HREL : Hid (relB f l US (relN f l US rl k) k = (((k == 0 || (relN f l US rl k).testBit (k - 1)) && US.testBit k) && f.cl.testBit y && (k + 1 == l.length || US.testBit (k + 1)))) := by show _ = _; unfold relB; rw [hy]; rfl
        have HH : Hid (∀ W, Calls Try.prog 72 #[.int .u32 (f.cl : Int), .int .i64 (y : Int)] W fun e w' => e = .returned (.bool (f.cl.testBit y)) ∧ Below W.heap.size W w') := fun W => HON.out _ _ W HF.out.cl hy32
        have HK0 : Hid ((k + 1 == 0 || (relN f l US rl (k + 1)).testBit (k + 1 - 1)) = (relN f l US rl (k + 1)).testBit k) := rfl
        generalize hx1 : relN f l US rl (k + 1) = x1 at *
        have HX1E := Lib.hid hx1
        clear hx1
        generalize relN f l US rl k = x at *
        generalize relB f l US x k = r at *
        generalize (k == 0 || x.testBit (k - 1)) = g at *
        generalize f.cl.testBit y = h at *
        have HK1 := Lib.hid hlt
        clear hy
        go_upto_region 9 with fail
        cases g
        case false =>
          have HRV : Hid (r = false) := by show _ = _; rw [HREL.out]; simp
          have HB2 := Lib.hid (HBIT.out _ HRV.out)
          obtain ⟨U, fU, hUn, hU1, hU2⟩ := class_of (fun V => Below wr.heap.size wr V) (W := wr.drew) ⟨rfl, rfl, rfl, Nat.le_refl _, fun _ _ => rfl⟩
          have HU1 := Lib.hid hU1; have HU2 := Lib.hid hU2
          clear hU1 hU2
          have hfm : (Try.prog).follows .mixedOrders = true := by kernel_rfl
          obtain ⟨q, hd1⟩ : ∃ q : Nat, 1 ≤ q := ⟨1, Nat.le_refl _⟩
          have z0 := fun uu => ((HU1.out uu).cell hb).trans x0
          have z1 := fun uu => ((HU1.out uu).cell lr).trans r2
          have z2 := fun uu => ((HU1.out uu).cell lu).trans u0
          have z3 := fun uu => ((HU1.out uu).cell lf).trans f0
          skip
          have h0_HR : ∀ uu, Calls Try.prog 72 #[.int .u32 (f.cl : Int), .int .i64 (y : Int)] (fU uu) fun e w' => e = .returned (.bool h) ∧ Below (fU uu).heap.size (fU uu) w' := fun uu => HH.out (fU uu)
          have HR : Hid (∀ uu, CallsIn Fence.wide (q - 1) Try.prog 72 #[.int .u32 (f.cl : Int), .int .i64 (y : Int)] (fU uu) fun e w' => e = .returned (.bool h) ∧ ∃ uu', w' = fU uu') := fun uu => (callsIn_wide.2 (h0_HR uu)).mono (fun e w' ⟨he, hb⟩ => ⟨he, HU2.out _ ((HU1.out uu).trans (hb.mono (HU1.out uu).size))⟩)
          have hf_HR : Fence.wide.fn 72 := trivial
          clear h0_HR
          clear x0 r2 u0 f0 hb lr lu lf
          refine (wpIn_wide (n := q)).1 ?_
          refine wpIn_region_cls fU (by kernel_rfl) hfm (by kernel_rfl) (HU2.out _ ⟨rfl, rfl, rfl, Nat.le_refl _, fun _ _ => rfl⟩) ?_
          repeat (gi_big_quiet_step ((gi_at_call 72; (with_reducible exact HR.out _))))
          refine wpQuietIn_nil ?_
          rintro w3 ⟨uu, rfl⟩
          have T3 := Lib.hid (T2.out.below (HU1.out uu))
          clear z0 z1 z2 z3 HU1 HU2 HR
          skip
          generalize fU uu = w3 at *
          have r3 : w3.cell? ⟨rb, n * 4 + 3, none⟩ = some (.slice (some ⟨lb, 0, none⟩) l.length l.length) := by rw [← HV3.out]; exact T3.out.r.cell (by have := HM.out; omega)
          have lr := T3.out.r.lt; have ll := T3.out.l.lt
          have HE : Hid (x1.testBit k = x.testBit k) := by show _ = _; rw [HB2.out k HK1.out, if_pos rfl, Bool.or_false]
          have l0 : w3.cell? ⟨lb, k, none⟩ = some (.bool (x.testBit k)) := T3.out.l.cell HK1.out
          have T4 : Hid (TrW w0 w1 w3 fb rb ub lb #[.int .u32 (f.cl : Int), .int .u32 (f.no : Int), .int .u32 (f.re : Int), .int .u32 (f.ak : Int), .int .u32 (f.ca : Int), .int .u32 (f.rq : Int)] V m l.length US x1) := ⟨T3.out.f, T3.out.r, T3.out.u, T3.out.l.congr (fun j hj => by
            show Value.bool _ = Value.bool _
            rw [HB2.out j hj]
            split
            · rename_i e; subst e; rw [Bool.or_false]
            · rfl), T3.out.bel, T3.out.only⟩
          generalize x.testBit k = xk at *
          go_wp2_with fail
          clear r3 lr ll l0
          go_roundw
          case rel => exact ⟨k + 1, by have := HK1.out; omega, by rw [HX1E.out]; exact congrArg Value.bool (HK0.out.trans HE.out).symm, by go_num, by rw [HX1E.out]; exact T4.out⟩
          case measure => have := HK1.out; simp [intOf]; omega
        case true =>
          generalize hu0 : US.testBit k = b0 at *
          clear hu0
          cases b0
          case false =>
            have HRV : Hid (r = false) := by show _ = _; rw [HREL.out]; simp
            have HB2 := Lib.hid (HBIT.out _ HRV.out)
            obtain ⟨U, fU, hUn, hU1, hU2⟩ := class_of (fun V => Below wr.heap.size wr V) (W := wr.drew) ⟨rfl, rfl, rfl, Nat.le_refl _, fun _ _ => rfl⟩
            have HU1 := Lib.hid hU1; have HU2 := Lib.hid hU2
            clear hU1 hU2
            have hfm : (Try.prog).follows .mixedOrders = true := by kernel_rfl
            obtain ⟨q, hd1⟩ : ∃ q : Nat, 1 ≤ q := ⟨1, Nat.le_refl _⟩
            have z0 := fun uu => ((HU1.out uu).cell hb).trans x0
            have z1 := fun uu => ((HU1.out uu).cell lr).trans r2
            have z2 := fun uu => ((HU1.out uu).cell lu).trans u0
            have z3 := fun uu => ((HU1.out uu).cell lf).trans f0
            skip
            have h0_HR : ∀ uu, Calls Try.prog 72 #[.int .u32 (f.cl : Int), .int .i64 (y : Int)] (fU uu) fun e w' => e = .returned (.bool h) ∧ Below (fU uu).heap.size (fU uu) w' := fun uu => HH.out (fU uu)
            have HR : Hid (∀ uu, CallsIn Fence.wide (q - 1) Try.prog 72 #[.int .u32 (f.cl : Int), .int .i64 (y : Int)] (fU uu) fun e w' => e = .returned (.bool h) ∧ ∃ uu', w' = fU uu') := fun uu => (callsIn_wide.2 (h0_HR uu)).mono (fun e w' ⟨he, hb⟩ => ⟨he, HU2.out _ ((HU1.out uu).trans (hb.mono (HU1.out uu).size))⟩)
            have hf_HR : Fence.wide.fn 72 := trivial
            clear h0_HR
            clear x0 r2 u0 f0 hb lr lu lf
            refine (wpIn_wide (n := q)).1 ?_
            refine wpIn_region_cls fU (by kernel_rfl) hfm (by kernel_rfl) (HU2.out _ ⟨rfl, rfl, rfl, Nat.le_refl _, fun _ _ => rfl⟩) ?_
            repeat (gi_big_quiet_step ((gi_at_call 72; (with_reducible exact HR.out _))))
            refine wpQuietIn_nil ?_
            rintro w3 ⟨uu, rfl⟩
            have T3 := Lib.hid (T2.out.below (HU1.out uu))
            clear z0 z1 z2 z3 HU1 HU2 HR
            skip
            generalize fU uu = w3 at *
            have r3 : w3.cell? ⟨rb, n * 4 + 3, none⟩ = some (.slice (some ⟨lb, 0, none⟩) l.length l.length) := by rw [← HV3.out]; exact T3.out.r.cell (by have := HM.out; omega)
            have lr := T3.out.r.lt; have ll := T3.out.l.lt
            have HE : Hid (x1.testBit k = x.testBit k) := by show _ = _; rw [HB2.out k HK1.out, if_pos rfl, Bool.or_false]
            have l0 : w3.cell? ⟨lb, k, none⟩ = some (.bool (x.testBit k)) := T3.out.l.cell HK1.out
            have T4 : Hid (TrW w0 w1 w3 fb rb ub lb #[.int .u32 (f.cl : Int), .int .u32 (f.no : Int), .int .u32 (f.re : Int), .int .u32 (f.ak : Int), .int .u32 (f.ca : Int), .int .u32 (f.rq : Int)] V m l.length US x1) := ⟨T3.out.f, T3.out.r, T3.out.u, T3.out.l.congr (fun j hj => by
              show Value.bool _ = Value.bool _
              rw [HB2.out j hj]
              split
              · rename_i e; subst e; rw [Bool.or_false]
              · rfl), T3.out.bel, T3.out.only⟩
            generalize x.testBit k = xk at *
            go_wp2_with fail
            clear r3 lr ll l0
            go_roundw
            case rel => exact ⟨k + 1, by have := HK1.out; omega, by rw [HX1E.out]; exact congrArg Value.bool (HK0.out.trans HE.out).symm, by go_num, by rw [HX1E.out]; exact T4.out⟩
            case measure => have := HK1.out; simp [intOf]; omega
          case true =>
            cases h
            case false =>
              have HRV : Hid (r = false) := by show _ = _; rw [HREL.out]; simp
              have HB2 := Lib.hid (HBIT.out _ HRV.out)
              obtain ⟨U, fU, hUn, hU1, hU2⟩ := class_of (fun V => Below wr.heap.size wr V) (W := wr.drew) ⟨rfl, rfl, rfl, Nat.le_refl _, fun _ _ => rfl⟩
              have HU1 := Lib.hid hU1; have HU2 := Lib.hid hU2
              clear hU1 hU2
              have hfm : (Try.prog).follows .mixedOrders = true := by kernel_rfl
              obtain ⟨q, hd1⟩ : ∃ q : Nat, 1 ≤ q := ⟨1, Nat.le_refl _⟩
              have z0 := fun uu => ((HU1.out uu).cell hb).trans x0
              have z1 := fun uu => ((HU1.out uu).cell lr).trans r2
              have z2 := fun uu => ((HU1.out uu).cell lu).trans u0
              have z3 := fun uu => ((HU1.out uu).cell lf).trans f0
              skip
              have h0_HR : ∀ uu, Calls Try.prog 72 #[.int .u32 (f.cl : Int), .int .i64 (y : Int)] (fU uu) fun e w' => e = .returned (.bool false) ∧ Below (fU uu).heap.size (fU uu) w' := fun uu => HH.out (fU uu)
              have HR : Hid (∀ uu, CallsIn Fence.wide (q - 1) Try.prog 72 #[.int .u32 (f.cl : Int), .int .i64 (y : Int)] (fU uu) fun e w' => e = .returned (.bool false) ∧ ∃ uu', w' = fU uu') := fun uu => (callsIn_wide.2 (h0_HR uu)).mono (fun e w' ⟨he, hb⟩ => ⟨he, HU2.out _ ((HU1.out uu).trans (hb.mono (HU1.out uu).size))⟩)
              have hf_HR : Fence.wide.fn 72 := trivial
              clear h0_HR
              clear x0 r2 u0 f0 hb lr lu lf
              refine (wpIn_wide (n := q)).1 ?_
              refine wpIn_region_cls fU (by kernel_rfl) hfm (by kernel_rfl) (HU2.out _ ⟨rfl, rfl, rfl, Nat.le_refl _, fun _ _ => rfl⟩) ?_
              repeat (gi_big_quiet_step ((gi_at_call 72; (with_reducible exact HR.out _))))
              refine wpQuietIn_nil ?_
              rintro w3 ⟨uu, rfl⟩
              have T3 := Lib.hid (T2.out.below (HU1.out uu))
              clear z0 z1 z2 z3 HU1 HU2 HR
              skip
              generalize fU uu = w3 at *
              have r3 : w3.cell? ⟨rb, n * 4 + 3, none⟩ = some (.slice (some ⟨lb, 0, none⟩) l.length l.length) := by rw [← HV3.out]; exact T3.out.r.cell (by have := HM.out; omega)
              have lr := T3.out.r.lt; have ll := T3.out.l.lt
              have HE : Hid (x1.testBit k = x.testBit k) := by show _ = _; rw [HB2.out k HK1.out, if_pos rfl, Bool.or_false]
              have l0 : w3.cell? ⟨lb, k, none⟩ = some (.bool (x.testBit k)) := T3.out.l.cell HK1.out
              have T4 : Hid (TrW w0 w1 w3 fb rb ub lb #[.int .u32 (f.cl : Int), .int .u32 (f.no : Int), .int .u32 (f.re : Int), .int .u32 (f.ak : Int), .int .u32 (f.ca : Int), .int .u32 (f.rq : Int)] V m l.length US x1) := ⟨T3.out.f, T3.out.r, T3.out.u, T3.out.l.congr (fun j hj => by
                show Value.bool _ = Value.bool _
                rw [HB2.out j hj]
                split
                · rename_i e; subst e; rw [Bool.or_false]
                · rfl), T3.out.bel, T3.out.only⟩
              generalize x.testBit k = xk at *
              go_wp2_with fail
              clear r3 lr ll l0
              go_roundw
              case rel => exact ⟨k + 1, by have := HK1.out; omega, by rw [HX1E.out]; exact congrArg Value.bool (HK0.out.trans HE.out).symm, by go_num, by rw [HX1E.out]; exact T4.out⟩
              case measure => have := HK1.out; simp [intOf]; omega
            case true =>
              by_cases hkL : k + 1 = l.length
              case pos =>
                have tk : ((k : Int) + 1 == (l.length : Int)) = true := by simp; omega
                have tk2 : (k + 1 == l.length) = true := by simpa using hkL
                have HRV : Hid (r = true) := by show _ = _; rw [HREL.out]; (rw [tk2]; rfl)
                have HB2 := Lib.hid (HBIT.out _ HRV.out)
                obtain ⟨U, fU, hUn, hU1, hU2⟩ := class_of (fun V => Below wr.heap.size wr V) (W := wr.drew) ⟨rfl, rfl, rfl, Nat.le_refl _, fun _ _ => rfl⟩
                have HU1 := Lib.hid hU1; have HU2 := Lib.hid hU2
                clear hU1 hU2
                have hfm : (Try.prog).follows .mixedOrders = true := by kernel_rfl
                obtain ⟨q, hd1⟩ : ∃ q : Nat, 1 ≤ q := ⟨1, Nat.le_refl _⟩
                have z0 := fun uu => ((HU1.out uu).cell hb).trans x0
                have z1 := fun uu => ((HU1.out uu).cell lr).trans r2
                have z2 := fun uu => ((HU1.out uu).cell lu).trans u0
                have z3 := fun uu => ((HU1.out uu).cell lf).trans f0
                skip
                have h0_HR : ∀ uu, Calls Try.prog 72 #[.int .u32 (f.cl : Int), .int .i64 (y : Int)] (fU uu) fun e w' => e = .returned (.bool true) ∧ Below (fU uu).heap.size (fU uu) w' := fun uu => HH.out (fU uu)
                have HR : Hid (∀ uu, CallsIn Fence.wide (q - 1) Try.prog 72 #[.int .u32 (f.cl : Int), .int .i64 (y : Int)] (fU uu) fun e w' => e = .returned (.bool true) ∧ ∃ uu', w' = fU uu') := fun uu => (callsIn_wide.2 (h0_HR uu)).mono (fun e w' ⟨he, hb⟩ => ⟨he, HU2.out _ ((HU1.out uu).trans (hb.mono (HU1.out uu).size))⟩)
                have hf_HR : Fence.wide.fn 72 := trivial
                clear h0_HR
                clear x0 r2 u0 f0 hb lr lu lf
                refine (wpIn_wide (n := q)).1 ?_
                refine wpIn_region_cls fU (by kernel_rfl) hfm (by kernel_rfl) (HU2.out _ ⟨rfl, rfl, rfl, Nat.le_refl _, fun _ _ => rfl⟩) ?_
                repeat (gi_big_quiet_step ((gi_at_call 72; (with_reducible exact HR.out _))))
                refine wpQuietIn_nil ?_
                rintro w3 ⟨uu, rfl⟩
                have T3 := Lib.hid (T2.out.below (HU1.out uu))
                clear z0 z1 z2 z3 HU1 HU2 HR
                skip
                generalize fU uu = w3 at *
                have r3 : w3.cell? ⟨rb, n * 4 + 3, none⟩ = some (.slice (some ⟨lb, 0, none⟩) l.length l.length) := by rw [← HV3.out]; exact T3.out.r.cell (by have := HM.out; omega)
                have lr := T3.out.r.lt; have ll := T3.out.l.lt
                have HE : Hid (x1.testBit k = true) := by show _ = _; rw [HB2.out k HK1.out, if_pos rfl, Bool.or_true]
                have l0 : w3.cell? ⟨lb, k, none⟩ = some (.bool (x.testBit k)) := T3.out.l.cell HK1.out
                have fr := T3.out.l.frozen k
                have T4 : Hid (TrW w0 w1 (w3.setCell ⟨lb, k, none⟩ (.bool true)) fb rb ub lb #[.int .u32 (f.cl : Int), .int .u32 (f.no : Int), .int .u32 (f.re : Int), .int .u32 (f.ak : Int), .int .u32 (f.ca : Int), .int .u32 (f.rq : Int)] V m l.length US x1) := T3.out.setL TA.out (k := k) true (fun j hj => by rw [HB2.out j hj]; simp)
                generalize x.testBit k = xk at *
                go_upto_region 11 with fail
                generalize w3.setCell ⟨lb, k, none⟩ (.bool true) = w4 at *
                clear r3 lr ll l0 fr T3
                have r3 : w4.cell? ⟨rb, n * 4 + 3, none⟩ = some (.slice (some ⟨lb, 0, none⟩) l.length l.length) := by rw [← HV3.out]; exact T4.out.r.cell (by have := HM.out; omega)
                have l0 : w4.cell? ⟨lb, k, none⟩ = some (.bool true) := by rw [← HE.out]; exact T4.out.l.cell HK1.out
                have lr := T4.out.r.lt; have ll := T4.out.l.lt
                go_wp2_with fail
                clear r3 lr ll l0
                go_roundw
                case rel => exact ⟨k + 1, by have := HK1.out; omega, by rw [HX1E.out]; exact congrArg Value.bool (HK0.out.trans HE.out).symm, by go_num, by rw [HX1E.out]; exact T4.out⟩
                case measure => have := HK1.out; simp [intOf]; omega
              case neg =>
                have tk : ((k : Int) + 1 == (l.length : Int)) = false := by simp; omega
                have tk2 : (k + 1 == l.length) = false := by simpa using hkL
                have hk1 : k + 1 < l.length := by omega
                have u1 : wr.cell? ⟨ub, k + 1, none⟩ = some (.bool (US.testBit (k + 1))) := T2.out.u.cell hk1
                generalize hu1 : US.testBit (k + 1) = b1 at *
                clear hu1 hkL
                cases b1
                case false =>
                  have HRV : Hid (r = false) := by show _ = _; rw [HREL.out]; (rw [tk2]; rfl)
                  have HB2 := Lib.hid (HBIT.out _ HRV.out)
                  obtain ⟨U, fU, hUn, hU1, hU2⟩ := class_of (fun V => Below wr.heap.size wr V) (W := wr.drew) ⟨rfl, rfl, rfl, Nat.le_refl _, fun _ _ => rfl⟩
                  have HU1 := Lib.hid hU1; have HU2 := Lib.hid hU2
                  clear hU1 hU2
                  have hfm : (Try.prog).follows .mixedOrders = true := by kernel_rfl
                  obtain ⟨q, hd1⟩ : ∃ q : Nat, 1 ≤ q := ⟨1, Nat.le_refl _⟩
                  have z0 := fun uu => ((HU1.out uu).cell hb).trans x0
                  have z1 := fun uu => ((HU1.out uu).cell lr).trans r2
                  have z2 := fun uu => ((HU1.out uu).cell lu).trans u0
                  have z3 := fun uu => ((HU1.out uu).cell lf).trans f0
                  have z4 := fun uu => ((HU1.out uu).cell lu).trans u1
                  have h0_HR : ∀ uu, Calls Try.prog 72 #[.int .u32 (f.cl : Int), .int .i64 (y : Int)] (fU uu) fun e w' => e = .returned (.bool true) ∧ Below (fU uu).heap.size (fU uu) w' := fun uu => HH.out (fU uu)
                  have HR : Hid (∀ uu, CallsIn Fence.wide (q - 1) Try.prog 72 #[.int .u32 (f.cl : Int), .int .i64 (y : Int)] (fU uu) fun e w' => e = .returned (.bool true) ∧ ∃ uu', w' = fU uu') := fun uu => (callsIn_wide.2 (h0_HR uu)).mono (fun e w' ⟨he, hb⟩ => ⟨he, HU2.out _ ((HU1.out uu).trans (hb.mono (HU1.out uu).size))⟩)
                  have hf_HR : Fence.wide.fn 72 := trivial
                  clear h0_HR
                  clear x0 r2 u0 f0 hb lr lu lf
                  refine (wpIn_wide (n := q)).1 ?_
                  refine wpIn_region_cls fU (by kernel_rfl) hfm (by kernel_rfl) (HU2.out _ ⟨rfl, rfl, rfl, Nat.le_refl _, fun _ _ => rfl⟩) ?_
                  repeat (gi_big_quiet_step ((gi_at_call 72; (with_reducible exact HR.out _))))
                  refine wpQuietIn_nil ?_
                  rintro w3 ⟨uu, rfl⟩
                  have T3 := Lib.hid (T2.out.below (HU1.out uu))
                  clear z0 z1 z2 z3 HU1 HU2 HR
                  clear z4 u1
                  generalize fU uu = w3 at *
                  have r3 : w3.cell? ⟨rb, n * 4 + 3, none⟩ = some (.slice (some ⟨lb, 0, none⟩) l.length l.length) := by rw [← HV3.out]; exact T3.out.r.cell (by have := HM.out; omega)
                  have lr := T3.out.r.lt; have ll := T3.out.l.lt
                  have HE : Hid (x1.testBit k = x.testBit k) := by show _ = _; rw [HB2.out k HK1.out, if_pos rfl, Bool.or_false]
                  have l0 : w3.cell? ⟨lb, k, none⟩ = some (.bool (x.testBit k)) := T3.out.l.cell HK1.out
                  have T4 : Hid (TrW w0 w1 w3 fb rb ub lb #[.int .u32 (f.cl : Int), .int .u32 (f.no : Int), .int .u32 (f.re : Int), .int .u32 (f.ak : Int), .int .u32 (f.ca : Int), .int .u32 (f.rq : Int)] V m l.length US x1) := ⟨T3.out.f, T3.out.r, T3.out.u, T3.out.l.congr (fun j hj => by
                    show Value.bool _ = Value.bool _
                    rw [HB2.out j hj]
                    split
                    · rename_i e; subst e; rw [Bool.or_false]
                    · rfl), T3.out.bel, T3.out.only⟩
                  generalize x.testBit k = xk at *
                  go_wp2_with fail
                  clear r3 lr ll l0
                  go_roundw
                  case rel => exact ⟨k + 1, by have := HK1.out; omega, by rw [HX1E.out]; exact congrArg Value.bool (HK0.out.trans HE.out).symm, by go_num, by rw [HX1E.out]; exact T4.out⟩
                  case measure => have := HK1.out; simp [intOf]; omega
                case true =>
                  have HRV : Hid (r = true) := by show _ = _; rw [HREL.out]; (rw [tk2]; rfl)
                  have HB2 := Lib.hid (HBIT.out _ HRV.out)
                  obtain ⟨U, fU, hUn, hU1, hU2⟩ := class_of (fun V => Below wr.heap.size wr V) (W := wr.drew) ⟨rfl, rfl, rfl, Nat.le_refl _, fun _ _ => rfl⟩
                  have HU1 := Lib.hid hU1; have HU2 := Lib.hid hU2
                  clear hU1 hU2
                  have hfm : (Try.prog).follows .mixedOrders = true := by kernel_rfl
                  obtain ⟨q, hd1⟩ : ∃ q : Nat, 1 ≤ q := ⟨1, Nat.le_refl _⟩
                  have z0 := fun uu => ((HU1.out uu).cell hb).trans x0
                  have z1 := fun uu => ((HU1.out uu).cell lr).trans r2
                  have z2 := fun uu => ((HU1.out uu).cell lu).trans u0
                  have z3 := fun uu => ((HU1.out uu).cell lf).trans f0
                  have z4 := fun uu => ((HU1.out uu).cell lu).trans u1
                  have h0_HR : ∀ uu, Calls Try.prog 72 #[.int .u32 (f.cl : Int), .int .i64 (y : Int)] (fU uu) fun e w' => e = .returned (.bool true) ∧ Below (fU uu).heap.size (fU uu) w' := fun uu => HH.out (fU uu)
                  have HR : Hid (∀ uu, CallsIn Fence.wide (q - 1) Try.prog 72 #[.int .u32 (f.cl : Int), .int .i64 (y : Int)] (fU uu) fun e w' => e = .returned (.bool true) ∧ ∃ uu', w' = fU uu') := fun uu => (callsIn_wide.2 (h0_HR uu)).mono (fun e w' ⟨he, hb⟩ => ⟨he, HU2.out _ ((HU1.out uu).trans (hb.mono (HU1.out uu).size))⟩)
                  have hf_HR : Fence.wide.fn 72 := trivial
                  clear h0_HR
                  clear x0 r2 u0 f0 hb lr lu lf
                  refine (wpIn_wide (n := q)).1 ?_
                  refine wpIn_region_cls fU (by kernel_rfl) hfm (by kernel_rfl) (HU2.out _ ⟨rfl, rfl, rfl, Nat.le_refl _, fun _ _ => rfl⟩) ?_
                  repeat (gi_big_quiet_step ((gi_at_call 72; (with_reducible exact HR.out _))))
                  refine wpQuietIn_nil ?_
                  rintro w3 ⟨uu, rfl⟩
                  have T3 := Lib.hid (T2.out.below (HU1.out uu))
                  clear z0 z1 z2 z3 HU1 HU2 HR
                  clear z4 u1
                  generalize fU uu = w3 at *
                  have r3 : w3.cell? ⟨rb, n * 4 + 3, none⟩ = some (.slice (some ⟨lb, 0, none⟩) l.length l.length) := by rw [← HV3.out]; exact T3.out.r.cell (by have := HM.out; omega)
                  have lr := T3.out.r.lt; have ll := T3.out.l.lt
                  have HE : Hid (x1.testBit k = true) := by show _ = _; rw [HB2.out k HK1.out, if_pos rfl, Bool.or_true]
                  have l0 : w3.cell? ⟨lb, k, none⟩ = some (.bool (x.testBit k)) := T3.out.l.cell HK1.out
                  have fr := T3.out.l.frozen k
                  have T4 : Hid (TrW w0 w1 (w3.setCell ⟨lb, k, none⟩ (.bool true)) fb rb ub lb #[.int .u32 (f.cl : Int), .int .u32 (f.no : Int), .int .u32 (f.re : Int), .int .u32 (f.ak : Int), .int .u32 (f.ca : Int), .int .u32 (f.rq : Int)] V m l.length US x1) := T3.out.setL TA.out (k := k) true (fun j hj => by rw [HB2.out j hj]; simp)
                  generalize x.testBit k = xk at *
                  go_upto_region 11 with fail
                  generalize w3.setCell ⟨lb, k, none⟩ (.bool true) = w4 at *
                  clear r3 lr ll l0 fr T3
                  have r3 : w4.cell? ⟨rb, n * 4 + 3, none⟩ = some (.slice (some ⟨lb, 0, none⟩) l.length l.length) := by rw [← HV3.out]; exact T4.out.r.cell (by have := HM.out; omega)
                  have l0 : w4.cell? ⟨lb, k, none⟩ = some (.bool true) := by rw [← HE.out]; exact T4.out.l.cell HK1.out
                  have lr := T4.out.r.lt; have ll := T4.out.l.lt
                  go_wp2_with fail
                  clear r3 lr ll l0
                  go_roundw
                  case rel => exact ⟨k + 1, by have := HK1.out; omega, by rw [HX1E.out]; exact congrArg Value.bool (HK0.out.trans HE.out).symm, by go_num, by rw [HX1E.out]; exact T4.out⟩
                  case measure => have := HK1.out; simp [intOf]; omega
      case neg =>
      obtain rfl : k = l.length := by omega
      have HXL : Hid (relN f l US rl l.length < 2 ^ l.length) := relN_lt2 f l HRL.out _ (Nat.le_refl _)
      generalize hX : relN f l US rl l.length = X at *
      have HXE := Lib.hid hX
      clear hX
      go_wp2_with fail
      go_loopw [9] (fun i wr => ∃ k : Nat, k ≤ l.length ∧ i = .int .i64 k ∧ (∀ j, j < k → X.testBit j = true) ∧ TrW w0 w1 wr fb rb ub lb #[.int .u32 (f.cl : Int), .int .u32 (f.no : Int), .int .u32 (f.re : Int), .int .u32 (f.ak : Int), .int .u32 (f.ca : Int), .int .u32 (f.rq : Int)] V m l.length US X) (fun i _ => l.length - (intOf i).toNat)
      case atStart => exact ⟨0, Nat.zero_le _, rfl, fun j hj => absurd hj (by omega), T2.out⟩
      case round =>
        clear T2
        obtain ⟨k, hk, rfl, hno, hp⟩ := hrel
        have T2 := Lib.hid hp; have NO := Lib.hid hno
        clear hp hno
        by_cases hlt : k < l.length
        case pos =>
          have r3 : wr.cell? ⟨rb, n * 4 + 3, none⟩ = some (.slice (some ⟨lb, 0, none⟩) l.length l.length) := by rw [← HV3.out]; exact T2.out.r.cell (by have := HM.out; omega)
          have l0 : wr.cell? ⟨lb, k, none⟩ = some (.bool (X.testBit k)) := T2.out.l.cell hlt
          have lr := T2.out.r.lt; have ll := T2.out.l.lt
          generalize hb0 : X.testBit k = b0 at *
          have HB0 := Lib.hid hb0
          clear hb0
          cases b0
          case false =>
            have HNF : Hid (X ≠ 2 ^ l.length - 1) := fun h => by have := (full_iff HXL.out).1 h k hlt; rw [HB0.out] at this; cases this
            go_wp2_with fail
            refine bodyPost_ret (results_none rfl _ _ _) rfl ?_
            rw [HXE.out]
            exact ⟨rfl, (Only.of_below _ B1.out).trans T2.out.only, fun h => absurd h HNF.out, fun _ => ⟨T2.out.r, T2.out.u, T2.out.l⟩⟩
          case true =>
            have HNN : Hid (∀ j, j < k + 1 → X.testBit j = true) := fun j hj => by
              by_cases e : j < k
              · exact NO.out j e
              · obtain rfl : j = k := by omega
                exact HB0.out
            go_wp2_with fail
            clear r3 l0 lr ll
            go_roundw
            case rel => exact ⟨k + 1, by omega, by go_num, HNN.out, T2.out⟩
            case measure => simp [intOf]; omega
        case neg =>
        obtain rfl : k = l.length := by omega
        have HFUL : Hid (X = 2 ^ l.length - 1) := (full_iff HXL.out).2 NO.out
        have hm := HM.out
        have r0 := T2.out.r.cell (i := n * 4) (by omega); have r1 := T2.out.r.cell (i := n * 4 + 1) (by omega); have r2 := T2.out.r.cell (i := n * 4 + 2) (by omega); have r3 := T2.out.r.cell (i := n * 4 + 3) (by omega)
        have f0 := T2.out.r.frozen (n * 4); have f1 := T2.out.r.frozen (n * 4 + 1); have f2 := T2.out.r.frozen (n * 4 + 2); have f3 := T2.out.r.frozen (n * 4 + 3)
        have lr := T2.out.r.lt
        have HROW := Lib.hid ((((T2.out.r.set (i := n * 4) (.int .i64 0)).set (i := n * 4 + 1) (.int .i64 0)).set (i := n * 4 + 2) (.slice none 0 0)).set (i := n * 4 + 3) (.slice none 0 0))
        have HONL := Lib.hid ((((T2.out.only.set (g := rb) (n * 4) (.int .i64 0) (.inr (.inl rfl))).set (g := rb) (n * 4 + 1) (.int .i64 0) (.inr (.inl rfl))).set (g := rb) (n * 4 + 2) (.slice none 0 0) (.inr (.inl rfl))).set (g := rb) (n * 4 + 3) (.slice none 0 0) (.inr (.inl rfl)))
        go_wp2_with fail
        go_end0
        rw [HXE.out]
        refine ⟨rfl, (Only.of_below _ B1.out).trans HONL.out, fun _ => HROW.out.congr fun j hj => ?_, fun h => absurd HFUL.out h⟩
        by_cases e0 : j = n * 4
        · subst e0; rw [if_neg (by omega), if_neg (by omega), if_neg (by omega), if_pos rfl, if_pos rfl]
        · by_cases e1 : j = n * 4 + 1
          · subst e1; rw [if_neg (by omega), if_neg (by omega), if_pos rfl, if_neg (by omega), if_pos rfl]
          · by_cases e2 : j = n * 4 + 2
            · subst e2; rw [if_neg (by omega), if_pos rfl, if_neg (by omega), if_neg (by omega), if_pos rfl]
            · by_cases e3 : j = n * 4 + 3
              · subst e3; rw [if_pos rfl, if_neg (by omega), if_neg (by omega), if_neg (by omega), if_pos rfl]
              · rw [if_neg e3, if_neg e2, if_neg e1, if_neg e0, if_neg e0, if_neg e1, if_neg e2, if_neg e3]
end Go.Proofs.Ytnjeiigdfdjccaa
/- The document's automaton: how it lies; a train comes. -/
namespace Go.Proofs.Ytnjeiigdfdjccaa
open Go.RowKit
set_option linter.unusedVariables false
set_option linter.unusedSimpArgs false
def ruV (T : Tab) (R : Nat → RS) (b : Nat → Nat) (n : Nat) : Value := if (R n).ph = 3 then .slice (some ⟨b n, 0, none⟩) (T.rts.getD n rt0).tr.length (T.rts.getD n rt0).tr.length else .slice none 0 0
def r27V (T : Tab) (R : Nat → RS) (ub lb : Nat → Nat) (q : Nat) : Value :=
  if q % 4 = 0 then .int .i64 ((R (q / 4)).ph : Int) else if q % 4 = 1 then .int .i64 ((R (q / 4)).tm : Int) else if q % 4 = 2 then ruV T R ub (q / 4) else ruV T R lb (q / 4)
theorem r27V_0 (T : Tab) (R : Nat → RS) (ub lb : Nat → Nat) (n : Nat) : r27V T R ub lb (n * 4) = .int .i64 ((R n).ph : Int) := by
  unfold r27V; rw [show n * 4 % 4 = 0 by omega, show n * 4 / 4 = n by omega]; rfl
theorem r27V_1 (T : Tab) (R : Nat → RS) (ub lb : Nat → Nat) (n : Nat) : r27V T R ub lb (n * 4 + 1) = .int .i64 ((R n).tm : Int) := by
  unfold r27V; rw [show (n * 4 + 1) % 4 = 1 by omega, show (n * 4 + 1) / 4 = n by omega]; rfl
theorem r27V_2 (T : Tab) (R : Nat → RS) (ub lb : Nat → Nat) (n : Nat) : r27V T R ub lb (n * 4 + 2) = ruV T R ub n := by
  unfold r27V; rw [show (n * 4 + 2) % 4 = 2 by omega, show (n * 4 + 2) / 4 = n by omega]; rfl
theorem r27V_3 (T : Tab) (R : Nat → RS) (ub lb : Nat → Nat) (n : Nat) : r27V T R ub lb (n * 4 + 3) = ruV T R lb n := by
  unfold r27V; rw [show (n * 4 + 3) % 4 = 3 by omega, show (n * 4 + 3) / 4 = n by omega]; rfl
def fset (b : Nat → Nat) (n x : Nat) (m : Nat) : Nat := if m = n then x else b m
/-- A route's form: what its phase does not use is 0. -/
structure Nf (r : RS) (L : Nat) : Prop where
  z0 : r.ph = 0 → r = rs0
  z1 : r.ph = 1 → r.tm = 0
  z2 : r.ph ≠ 3 → r.us = 0 ∧ r.rl = 0
  z3 : r.ph = 3 → r.tm = 0
  us : r.us < 2 ^ L
  rl : r.rl < 2 ^ L
  ph : r.ph < 4
  tm : r.tm < 65536
/-- The document's automaton: a world in which its table lay; a bound below its blocks; its blocks. -/
structure Rf where
  w0 : World
  (B g rb cb : Nat)
  (vp vr : Value)
  T : Tab
def Rf.row (u : Rf) : Array Value := #[.int .i64 u.T.tracks, u.vp, .int .i64 u.T.sigs, u.vr, .slice (some ⟨u.rb, 0, none⟩) u.T.rts.length u.T.rts.length, .slice (some ⟨u.cb, 0, none⟩) u.T.pts.length u.T.pts.length]
/-- Two blocks of a route, off the others. -/
structure RoffA (u : Rf) (b1 b2 : Nat) : Prop where
  ne : b1 ≠ b2
  g1 : b1 ≠ u.g
  r1 : b1 ≠ u.rb
  c1 : b1 ≠ u.cb
  g2 : b2 ≠ u.g
  r2 : b2 ≠ u.rb
  c2 : b2 ≠ u.cb
  B1 : u.B ≤ b1
  B2 : u.B ≤ b2
structure RoffB (b1 b2 c1 c2 : Nat) : Prop where
  a : b1 ≠ c1
  b : b1 ≠ c2
  c : b2 ≠ c1
  d : b2 ≠ c2
structure R27At (w : World) (u : Rf) (S : AS) (ub lb : Nat → Nat) : Prop where
  obj : w.heap[u.g]? = some (.cells #[.int .i64 u.T.tracks, u.vp, .int .i64 u.T.sigs, u.vr, .slice (some ⟨u.rb, 0, none⟩) u.T.rts.length u.T.rts.length, .slice (some ⟨u.cb, 0, none⟩) u.T.pts.length u.T.pts.length] 103 (0, 0))
  tp : IntsAt u.w0 u.vp u.T.pts
  tr : RtsAt u.w0 u.vr u.T.rts
  bel : Below u.w0.heap.size u.w0 w
  rs : RowAt w u.rb 105 (u.T.rts.length * 4) (r27V u.T S.R ub lb)
  cs : RowAt w u.cb 3 u.T.pts.length (fun i => .int .i64 (S.C i : Int))
  us : ∀ n, n < u.T.rts.length → (S.R n).ph = 3 → RowAt w (ub n) 4 (u.T.rts.getD n rt0).tr.length (bitsV (S.R n).us) ∧ RowAt w (lb n) 4 (u.T.rts.getD n rt0).tr.length (bitsV (S.R n).rl)
  nf : ∀ n, n < u.T.rts.length → Nf (S.R n) (u.T.rts.getD n rt0).tr.length
  B0 : u.w0.heap.size ≤ u.B
  gB : u.B ≤ u.g
  rB : u.B ≤ u.rb
  cB : u.B ≤ u.cb
  gr : u.g ≠ u.rb
  gc : u.g ≠ u.cb
  rc : u.rb ≠ u.cb
  du : ∀ n, n < u.T.rts.length → (S.R n).ph = 3 → RoffA u (ub n) (lb n)
  dd : ∀ n m, n < u.T.rts.length → m < u.T.rts.length → n ≠ m → (S.R n).ph = 3 → (S.R m).ph = 3 → RoffB (ub n) (lb n) (ub m) (lb m)
/-- The blocks that are its own. -/
def Own27 (u : Rf) (S : AS) (ub lb : Nat → Nat) (b : Nat) : Prop := b = u.rb ∨ b = u.cb ∨ ∃ n, n < u.T.rts.length ∧ (S.R n).ph = 3 ∧ (b = ub n ∨ b = lb n)
theorem R27At.below {w w' : World} {u : Rf} {S : AS} {ub lb : Nat → Nat} (h : R27At w u S ub lb) (hb : Below w.heap.size w w') : R27At w' u S ub lb :=
  ⟨tb_kept h.obj hb, h.tp, h.tr, h.bel.trans (hb.mono h.bel.size), h.rs.same (hb.block _ h.rs.lt), h.cs.same (hb.block _ h.cs.lt), fun n hn h3 => ⟨(h.us n hn h3).1.same (hb.block _ (h.us n hn h3).1.lt), (h.us n hn h3).2.same (hb.block _ (h.us n hn h3).2.lt)⟩, h.nf, h.B0, h.gB, h.rB, h.cB, h.gr, h.gc, h.rc, h.du, h.dd⟩
theorem R27At.only {M : Nat → Prop} {w w' : World} {u : Rf} {S : AS} {ub lb : Nat → Nat} (h : R27At w u S ub lb) (ho : Only M w w') (hM : ∀ b, M b → u.w0.heap.size ≤ b) (hg : ¬ M u.g) (hown : ∀ b, Own27 u S ub lb b → ¬ M b) : R27At w' u S ub lb :=
  ⟨(ho.block _ (heap_lt h.obj) hg).trans h.obj, h.tp, h.tr, h.bel.trans (ho.below h.bel.size (fun i hi hm => by have := hM i hm; omega)), h.rs.same (ho.block _ h.rs.lt (hown _ (.inl rfl))), h.cs.same (ho.block _ h.cs.lt (hown _ (.inr (.inl rfl)))),
    fun n hn h3 => ⟨(h.us n hn h3).1.same (ho.block _ (h.us n hn h3).1.lt (hown _ (.inr (.inr ⟨n, hn, h3, .inl rfl⟩)))), (h.us n hn h3).2.same (ho.block _ (h.us n hn h3).2.lt (hown _ (.inr (.inr ⟨n, hn, h3, .inr rfl⟩))))⟩, h.nf, h.B0, h.gB, h.rB, h.cB, h.gr, h.gc, h.rc, h.du, h.dd⟩
/-- One route is turned. -/
theorem R27At.upd {w w' : World} {u : Rf} {S : AS} {ub lb : Nat → Nat} (h : R27At w u S ub lb) {n : Nat} (hn : n < u.T.rts.length) {r : RS} {b1 b2 : Nat}
    (ho : Only (fun b => b = u.rb ∨ (S.R n).ph = 3 ∧ (b = ub n ∨ b = lb n)) w w')
    (hrow : RowAt w' u.rb 105 (u.T.rts.length * 4) (r27V u.T (S.setR n r).R (fset ub n b1) (fset lb n b2))) (hnf : Nf r (u.T.rts.getD n rt0).tr.length)
    (hl : r.ph = 3 → RowAt w' b1 4 (u.T.rts.getD n rt0).tr.length (bitsV r.us) ∧ RowAt w' b2 4 (u.T.rts.getD n rt0).tr.length (bitsV r.rl) ∧ RoffA u b1 b2 ∧ ∀ m, m < u.T.rts.length → m ≠ n → (S.R m).ph = 3 → RoffB b1 b2 (ub m) (lb m)) :
    R27At w' u (S.setR n r) (fset ub n b1) (fset lb n b2) := by
  have hR : ∀ m, m ≠ n → (S.setR n r).R m = S.R m := fun m hm => if_neg hm
  have hRn : (S.setR n r).R n = r := if_pos rfl
  have hu1 : ∀ m, m ≠ n → fset ub n b1 m = ub m ∧ fset lb n b2 m = lb m := fun m hm => ⟨if_neg hm, if_neg hm⟩
  have hu2 : fset ub n b1 n = b1 ∧ fset lb n b2 n = b2 := ⟨if_pos rfl, if_pos rfl⟩
  have hg : ∀ b, (b = u.rb ∨ (S.R n).ph = 3 ∧ (b = ub n ∨ b = lb n)) → u.w0.heap.size ≤ b ∧ b ≠ u.g ∧ b ≠ u.cb := fun b hb => by
    have := h.B0; have := h.rB
    rcases hb with rfl | ⟨h3, rfl | rfl⟩
    · exact ⟨by omega, fun e => h.gr e.symm, h.rc⟩
    · have := h.du n hn h3; exact ⟨by have := this.B1; omega, this.g1, this.c1⟩
    · have := h.du n hn h3; exact ⟨by have := this.B2; omega, this.g2, this.c2⟩
  refine ⟨(ho.block _ (heap_lt h.obj) (fun hb => (hg _ hb).2.1 rfl)).trans h.obj, h.tp, h.tr, h.bel.trans (ho.below h.bel.size (fun i hi hm => by have := (hg i hm).1; omega)), hrow, h.cs.same (ho.block _ h.cs.lt (fun hb => (hg _ hb).2.2 rfl)), fun m hm h3 => ?_, fun m hm => ?_, h.B0, h.gB, h.rB, h.cB, h.gr, h.gc, h.rc, fun m hm h3 => ?_, fun m k hm hk hne h3 h3' => ?_⟩
  · by_cases e : m = n
    · subst e
      rw [hRn] at h3 ⊢
      rw [hu2.1, hu2.2]
      exact ⟨(hl h3).1, (hl h3).2.1⟩
    · rw [hR m e] at h3 ⊢
      rw [(hu1 m e).1, (hu1 m e).2]
      have hh := h.us m hm h3
      have off : ∀ b, (b = ub m ∨ b = lb m) → ¬ (b = u.rb ∨ (S.R n).ph = 3 ∧ (b = ub n ∨ b = lb n)) := fun b hb hM => by
        have a := h.du m hm h3
        rcases hM with rfl | ⟨hn3, hM⟩
        · rcases hb with hb | hb
          · exact a.r1 hb.symm
          · exact a.r2 hb.symm
        · have d := h.dd m n hm hn e h3 hn3
          rcases hb with rfl | rfl <;> rcases hM with hM | hM
          · exact d.a hM
          · exact d.b hM
          · exact d.c hM
          · exact d.d hM
      exact ⟨hh.1.same (ho.block _ hh.1.lt (off _ (.inl rfl))), hh.2.same (ho.block _ hh.2.lt (off _ (.inr rfl)))⟩
  · by_cases e : m = n
    · subst e; rw [hRn]; exact hnf
    · rw [hR m e]; exact h.nf m hm
  · by_cases e : m = n
    · subst e
      rw [hRn] at h3
      rw [hu2.1, hu2.2]
      exact (hl h3).2.2.1
    · rw [hR m e] at h3
      rw [(hu1 m e).1, (hu1 m e).2]
      exact h.du m hm h3
  · by_cases e : m = n
    · subst e
      rw [hRn] at h3
      rw [hR k (Ne.symm hne)] at h3'
      rw [hu2.1, hu2.2, (hu1 k (Ne.symm hne)).1, (hu1 k (Ne.symm hne)).2]
      exact (hl h3).2.2.2 k hk (Ne.symm hne) h3'
    · rw [hR m e] at h3
      rw [(hu1 m e).1, (hu1 m e).2]
      by_cases e' : k = n
      · subst e'
        rw [hRn] at h3'
        rw [hu2.1, hu2.2]
        have := (hl h3').2.2.2 m hm e h3
        exact ⟨Ne.symm this.a, Ne.symm this.c, Ne.symm this.b, Ne.symm this.d⟩
      · rw [hR k e'] at h3'
        rw [(hu1 k e').1, (hu1 k e').2]
        exact h.dd m k hm hk hne h3 h3'
/-- The row of the routes, one turned. -/
theorem r27_row {T : Tab} {R : Nat → RS} {ub lb : Nat → Nat} {n m b1 b2 : Nat} {r : RS} {w : World} {rb : Nat} {V : Nat → Value} (h : RowAt w rb 105 m V) (hV : ∀ q, q < m → q / 4 ≠ n → V q = r27V T R ub lb q)
    (h0 : V (n * 4) = .int .i64 (r.ph : Int)) (h1 : V (n * 4 + 1) = .int .i64 (r.tm : Int)) (h2 : V (n * 4 + 2) = if r.ph = 3 then .slice (some ⟨b1, 0, none⟩) (T.rts.getD n rt0).tr.length (T.rts.getD n rt0).tr.length else .slice none 0 0)
    (h3 : V (n * 4 + 3) = if r.ph = 3 then .slice (some ⟨b2, 0, none⟩) (T.rts.getD n rt0).tr.length (T.rts.getD n rt0).tr.length else .slice none 0 0) :
    RowAt w rb 105 m (r27V T (fun j => if j = n then r else R j) (fset ub n b1) (fset lb n b2)) := by
  refine h.congr fun q hq => ?_
  by_cases e : q / 4 = n
  · have hR : (fun j => if j = n then r else R j) n = r := if_pos rfl
    have : q = n * 4 ∨ q = n * 4 + 1 ∨ q = n * 4 + 2 ∨ q = n * 4 + 3 := by omega
    rcases this with rfl | rfl | rfl | rfl
    · rw [r27V_0, h0]; show _ = Value.int _ (((fun j => if j = n then r else R j) n).ph : Int); rw [hR]
    · rw [r27V_1, h1]; show _ = Value.int _ (((fun j => if j = n then r else R j) n).tm : Int); rw [hR]
    · rw [r27V_2, h2]; unfold ruV; rw [hR, show fset ub n b1 n = b1 from if_pos rfl]
    · rw [r27V_3, h3]; unfold ruV; rw [hR, show fset lb n b2 n = b2 from if_pos rfl]
  · rw [hV q hq e]
    unfold r27V ruV
    rw [show (fun j => if j = n then r else R j) (q / 4) = R (q / 4) from if_neg e, show fset ub n b1 (q / 4) = ub (q / 4) from if_neg e, show fset lb n b2 (q / 4) = lb (q / 4) from if_neg e]
set_option maxHeartbeats 2000000 in
theorem renter_any (rb n m L : Nat) (V : Nat → Value) (w : World) (hr : RowAt w rb 105 m V) (hm : n * 4 + 3 < m) (hL : L ≤ 1000) :
    Calls Try.prog 73 #[.pointer (some ⟨rb, n * 4, none⟩), .int .i64 (L : Int)] w fun e w' => e = .returned (.tuple #[]) ∧ Only (fun b => b = rb) w w' ∧ ∃ b1 b2, w.heap.size ≤ b1 ∧ w.heap.size ≤ b2 ∧ b1 ≠ b2 ∧
      RowAt w' b1 4 L (bitsV 0) ∧ RowAt w' b2 4 L (bitsV 0) ∧
      RowAt w' rb 105 m (fun q => if q = n * 4 + 3 then .slice (some ⟨b2, 0, none⟩) L L else if q = n * 4 + 2 then .slice (some ⟨b1, 0, none⟩) L L else if q = n * 4 + 1 then .int .i64 0 else if q = n * 4 then .int .i64 3 else V q) := by
  have hmk := fun w => run_make_row' (P := Try.prog) 37 4 (.bool false) 1 Try.underlying37 infoB rfl .i64 .i64 L (by omega) (by omega) w
  have HR := Lib.hid hr; have HM := Lib.hid hm
  have c0 := hr.cell (i := n * 4) (by omega); have f0 := hr.frozen (n * 4)
  have lr := hr.lt
  clear hr
  go_enter Try.func73, Try.ntmps73
  go_upto_region 1 with fail
  have R1 := Lib.hid (HR.out.set (i := n * 4) (.int .i64 3))
  have O1 : Hid (Only (fun b => b = rb) w (w.setCell ⟨rb, n * 4, none⟩ (.int .i64 3))) := (Only.refl _ w).set _ _ (.inr rfl)
  generalize w.setCell ⟨rb, n * 4, none⟩ (.int .i64 3) = w1 at *
  clear c0 f0 lr HR
  have c0 := R1.out.cell (i := n * 4 + 1) (by omega); have f0 := R1.out.frozen (n * 4 + 1)
  have lr := R1.out.lt
  go_upto_region 2 with fail
  have R2 := Lib.hid (R1.out.set (i := n * 4 + 1) (.int .i64 0))
  have O2 : Hid (Only (fun b => b = rb) w (w1.setCell ⟨rb, n * 4 + 1, none⟩ (.int .i64 0))) := O1.out.set _ _ (.inr rfl)
  generalize w1.setCell ⟨rb, n * 4 + 1, none⟩ (.int .i64 0) = w2 at *
  clear c0 f0 lr R1 O1
  obtain ⟨v2, hv2⟩ : ∃ W, W = w2.alloc (.cells (madeCells #[.bool false] L) 4) := ⟨_, rfl⟩
  have BV : Hid (Below w2.heap.size w2 v2) := by rw [hv2]; exact tb_alloc_below _ _
  have E2 : Hid (RowAt v2 w2.heap.size 4 L (bitsV 0)) := by rw [hv2]; exact (made_at _ _ _ _).congr (fun i _ => by unfold bitsV; rw [Nat.zero_testBit])
  have RV : Hid (RowAt v2 rb _ m _) := R2.out.same (BV.out.block _ R2.out.lt)
  have HV2 := Lib.hid hv2
  have c0 := RV.out.cell (i := n * 4 + 2) (by have := HM.out; omega); have f0 := RV.out.frozen (n * 4 + 2)
  have lr := RV.out.lt
  have hrb : rb < w2.heap.size := R2.out.lt
  have HRBL := Lib.hid hrb
  have HSZ : Hid (w.heap.size ≤ w2.heap.size) := O2.out.size
  rw [hv2] at c0 f0 lr
  clear hv2 hrb
  go_upto_region 3 with fail
  rw [← HV2.out]
  have R3 := Lib.hid (RV.out.set (i := n * 4 + 2) (.slice (some ⟨w2.heap.size, 0, none⟩) L L))
  have E3 : Hid (RowAt (v2.setCell ⟨rb, n * 4 + 2, none⟩ (.slice (some ⟨w2.heap.size, 0, none⟩) L L)) w2.heap.size 4 L (bitsV 0)) := E2.out.other (by have := HRBL.out; omega) _
  have O3 : Hid (Only (fun b => b = rb) w (v2.setCell ⟨rb, n * 4 + 2, none⟩ (.slice (some ⟨w2.heap.size, 0, none⟩) L L))) := (O2.out.trans (Only.of_below _ BV.out)).set _ _ (.inr rfl)
  generalize v2.setCell ⟨rb, n * 4 + 2, none⟩ (.slice (some ⟨w2.heap.size, 0, none⟩) L L) = w3 at *
  obtain ⟨b1, hb1⟩ : ∃ b, b = w2.heap.size := ⟨_, rfl⟩
  rw [← hb1] at R3 E3 HSZ
  have HB1 := Lib.hid HSZ.out
  have HNE : Hid (b1 ≠ rb) := by show _ ≠ _; have := HRBL.out; omega
  clear c0 f0 lr E2 RV BV HV2 R2 O2 HRBL HSZ
  rw [← hb1]
  clear hb1
  obtain ⟨v2, hv2⟩ : ∃ W, W = w3.alloc (.cells (madeCells #[.bool false] L) 4) := ⟨_, rfl⟩
  have BV : Hid (Below w3.heap.size w3 v2) := by rw [hv2]; exact tb_alloc_below _ _
  have E4 : Hid (RowAt v2 w3.heap.size 4 L (bitsV 0)) := by rw [hv2]; exact (made_at _ _ _ _).congr (fun i _ => by unfold bitsV; rw [Nat.zero_testBit])
  have RV : Hid (RowAt v2 rb _ m _) := R3.out.same (BV.out.block _ R3.out.lt)
  have HV2 := Lib.hid hv2
  have c0 := RV.out.cell (i := n * 4 + 3) (by have := HM.out; omega); have f0 := RV.out.frozen (n * 4 + 3)
  have lr := RV.out.lt
  have hrb : rb < w3.heap.size := R3.out.lt
  have HRBL := Lib.hid hrb
  have HSZ : Hid (w.heap.size ≤ w3.heap.size) := O3.out.size
  rw [hv2] at c0 f0 lr
  clear hv2 hrb
  go_wp2_with fail
  rw [← HV2.out]
  have R4 := Lib.hid (RV.out.set (i := n * 4 + 3) (.slice (some ⟨w3.heap.size, 0, none⟩) L L))
  have HRB2 := HRBL.out
  have EE3 : RowAt (v2.setCell ⟨rb, n * 4 + 3, none⟩ (.slice (some ⟨w3.heap.size, 0, none⟩) L L)) b1 4 L (bitsV 0) := (E3.out.same (BV.out.block _ E3.out.lt)).other (fun e => HNE.out e) _
  have EE4 : RowAt (v2.setCell ⟨rb, n * 4 + 3, none⟩ (.slice (some ⟨w3.heap.size, 0, none⟩) L L)) w3.heap.size 4 L (bitsV 0) := E4.out.other (by omega) _
  have O4 : Only (fun b => b = rb) w (v2.setCell ⟨rb, n * 4 + 3, none⟩ (.slice (some ⟨w3.heap.size, 0, none⟩) L L)) := (O3.out.trans (Only.of_below _ BV.out)).set _ _ (.inr rfl)
  go_end0
  exact ⟨rfl, O4, b1, w3.heap.size, HB1.out, HSZ.out, by have := E3.out.lt; omega, EE3, EE4, R4.out⟩
end Go.Proofs.Ytnjeiigdfdjccaa
/- The document's automaton: what a call turns. -/
namespace Go.Proofs.Ytnjeiigdfdjccaa
open Go.RowKit
set_option linter.unusedVariables false
set_option linter.unusedSimpArgs false
/-- It lies as the state says, in blocks of its own or new ones. -/
def UnderP (u : Rf) (S : AS) (ub lb : Nat → Nat) (w : World) (S' : AS) (w' : World) : Prop :=
  ∃ ub' lb', R27At w' u S' ub' lb' ∧ Only (Own27 u S ub lb) w w' ∧ ∀ b, Own27 u S' ub' lb' b → Own27 u S ub lb b ∨ w.heap.size ≤ b
theorem UnderP.of_below {u : Rf} {S : AS} {ub lb : Nat → Nat} {w w' : World} (h : R27At w u S ub lb) (hb : Below w.heap.size w w') : UnderP u S ub lb w S w' :=
  ⟨ub, lb, h.below hb, Only.of_below _ hb, fun b hb => .inl hb⟩
theorem UnderP.below {u : Rf} {S S' : AS} {ub lb : Nat → Nat} {w w1 w2 : World} (h : UnderP u S ub lb w S' w1) (hb : Below w1.heap.size w1 w2) : UnderP u S ub lb w S' w2 := by
  obtain ⟨u1, l1, a, b, c⟩ := h
  exact ⟨u1, l1, a.below hb, b.trans (Only.of_below _ hb), c⟩
theorem UnderP.trans {u : Rf} {S S1 S2 : AS} {ub lb : Nat → Nat} {w w1 w2 : World} (h : UnderP u S ub lb w S1 w1) (k : ∀ u1 l1, R27At w1 u S1 u1 l1 → UnderP u S1 u1 l1 w1 S2 w2) : UnderP u S ub lb w S2 w2 := by
  obtain ⟨u1, l1, a, b, c⟩ := h
  obtain ⟨u2, l2, a2, b2, c2⟩ := k u1 l1 a
  refine ⟨u2, l2, a2, ⟨b2.os.trans b.os, b2.tape.trans b.tape, b2.output.trans b.output, Nat.le_trans b.size b2.size, fun i hi hm => ?_⟩, fun x hx => ?_⟩
  · refine (b2.block i (Nat.lt_of_lt_of_le hi b.size) (fun h1 => ?_)).trans (b.block i hi hm)
    rcases c i h1 with h2 | h2
    · exact hm h2
    · omega
  · rcases c2 x hx with h2 | h2
    · exact c x h2
    · exact .inr (Nat.le_trans b.size h2)
theorem setR_C (S : AS) (n : Nat) (r : RS) : (S.setR n r).C = S.C := rfl
/-- One route is turned. -/
theorem UnderP.upd {w w' : World} {u : Rf} {S : AS} {ub lb : Nat → Nat} (h : R27At w u S ub lb) {n : Nat} (hn : n < u.T.rts.length) {r : RS} {b1 b2 : Nat}
    (ho : Only (fun b => b = u.rb ∨ (S.R n).ph = 3 ∧ (b = ub n ∨ b = lb n)) w w')
    (hrow : RowAt w' u.rb 105 (u.T.rts.length * 4) (r27V u.T (S.setR n r).R (fset ub n b1) (fset lb n b2))) (hnf : Nf r (u.T.rts.getD n rt0).tr.length)
    (hl : r.ph = 3 → RowAt w' b1 4 (u.T.rts.getD n rt0).tr.length (bitsV r.us) ∧ RowAt w' b2 4 (u.T.rts.getD n rt0).tr.length (bitsV r.rl) ∧ RoffA u b1 b2 ∧ ∀ m, m < u.T.rts.length → m ≠ n → (S.R m).ph = 3 → RoffB b1 b2 (ub m) (lb m))
    (hb : r.ph = 3 → ((S.R n).ph = 3 ∧ b1 = ub n ∧ b2 = lb n) ∨ (w.heap.size ≤ b1 ∧ w.heap.size ≤ b2)) : UnderP u S ub lb w (S.setR n r) w' := by
  refine ⟨fset ub n b1, fset lb n b2, h.upd hn ho hrow hnf hl, ho.mono (fun i _ hi => ?_), fun b hb' => ?_⟩
  · rcases hi with hi | ⟨h3, hi⟩
    · exact .inl hi
    · exact .inr (.inr ⟨n, hn, h3, hi⟩)
  · rcases hb' with e | e | ⟨m, hm, h3, e⟩
    · exact .inl (.inl e)
    · exact .inl (.inr (.inl e))
    · by_cases hmn : m = n
      · subst hmn
        rw [show (S.setR m r).R m = r from if_pos rfl] at h3
        rw [show fset ub m b1 m = b1 from if_pos rfl, show fset lb m b2 m = b2 from if_pos rfl] at e
        rcases hb h3 with ⟨g3, e1, e2⟩ | ⟨g1, g2⟩
        · rw [e1, e2] at e; exact .inl (.inr (.inr ⟨m, hm, g3, e⟩))
        · rcases e with e | e
          · exact .inr (by omega)
          · exact .inr (by omega)
      · rw [show (S.setR n r).R m = S.R m from if_neg hmn] at h3
        rw [show fset ub n b1 m = ub m from if_neg hmn, show fset lb n b2 m = lb m from if_neg hmn] at e
        exact .inl (.inr (.inr ⟨m, hm, h3, e⟩))
/-- A route's four cells are stored. -/
theorem UnderP.store4 {w : World} {u : Rf} {S : AS} {ub lb : Nat → Nat} (h : R27At w u S ub lb) {n : Nat} (hn : n < u.T.rts.length) (p t : Nat) (hp : p ≠ 3) (h0 : p = 0 → t = 0) (h1 : p = 1 → t = 0) (hp4 : p < 4) (ht : t < 65536) :
    UnderP u S ub lb w (S.setR n ⟨p, t, 0, 0⟩) ((((w.setCell ⟨u.rb, n * 4, none⟩ (.int .i64 (p : Int))).setCell ⟨u.rb, n * 4 + 1, none⟩ (.int .i64 (t : Int))).setCell ⟨u.rb, n * 4 + 2, none⟩ (.slice none 0 0)).setCell ⟨u.rb, n * 4 + 3, none⟩ (.slice none 0 0)) := by
  have hrow := (((h.rs.set (i := n * 4) (.int .i64 (p : Int))).set (i := n * 4 + 1) (.int .i64 (t : Int))).set (i := n * 4 + 2) (.slice none 0 0)).set (i := n * 4 + 3) (.slice none 0 0)
  refine UnderP.upd h hn (b1 := 0) (b2 := 0) ?_ (r27_row (R := S.R) (ub := ub) (lb := lb) (r := ⟨p, t, 0, 0⟩) hrow (fun q hq hne => ?_) ?_ ?_ ?_ ?_) ⟨fun e => ?_, fun e => h1 e, fun _ => ⟨rfl, rfl⟩, fun e => absurd e hp, Nat.pow_pos (by omega), Nat.pow_pos (by omega), hp4, ht⟩ (fun e => absurd e hp) (fun e => absurd e hp)
  · exact ((((Only.refl _ w).set _ _ (.inr (.inl rfl))).set _ _ (.inr (.inl rfl))).set _ _ (.inr (.inl rfl))).set _ _ (.inr (.inl rfl))
  · show (if q = n * 4 + 3 then _ else if q = n * 4 + 2 then _ else if q = n * 4 + 1 then _ else if q = n * 4 then _ else _) = _
    rw [if_neg (by omega), if_neg (by omega), if_neg (by omega), if_neg (by omega)]
  · show (if n * 4 = n * 4 + 3 then _ else if n * 4 = n * 4 + 2 then _ else if n * 4 = n * 4 + 1 then _ else if n * 4 = n * 4 then _ else _) = _
    rw [if_neg (by omega), if_neg (by omega), if_neg (by omega), if_pos rfl]
  · show (if n * 4 + 1 = n * 4 + 3 then _ else if n * 4 + 1 = n * 4 + 2 then _ else if n * 4 + 1 = n * 4 + 1 then _ else _) = _
    rw [if_neg (by omega), if_neg (by omega), if_pos rfl]
  · show (if n * 4 + 2 = n * 4 + 3 then _ else if n * 4 + 2 = n * 4 + 2 then _ else _) = _
    rw [if_neg (by omega), if_pos rfl, if_neg hp]
  · show (if n * 4 + 3 = n * 4 + 3 then _ else _) = _
    rw [if_pos rfl, if_neg hp]
  · have e : p = 0 := e
    subst e
    rw [h0 rfl]; rfl
theorem Nf_enter (L : Nat) : Nf ⟨3, 0, 0, 0⟩ L := ⟨fun e => absurd e (by decide), fun e => absurd e (by decide), fun e => absurd rfl e, fun _ => rfl, Nat.pow_pos (by omega), Nat.pow_pos (by omega), by show (3 : Nat) < 4; omega, by show 0 < 65536; omega⟩
/-- A train comes. -/
theorem enter_at {w : World} {u : Rf} {S : AS} {ub lb : Nat → Nat} (h : R27At w u S ub lb) {n : Nat} (hn : n < u.T.rts.length) (h3 : (S.R n).ph ≠ 3) (hL : (u.T.rts.getD n rt0).tr.length ≤ 1000) :
    Calls Try.prog 73 #[.pointer (some ⟨u.rb, n * 4, none⟩), .int .i64 ((u.T.rts.getD n rt0).tr.length : Int)] w fun e w' => e = .returned (.tuple #[]) ∧ UnderP u S ub lb w (S.setR n ⟨3, 0, 0, 0⟩) w' := by
  refine (renter_any u.rb n _ _ _ w h.rs (by omega) hL).mono ?_
  rintro e w' ⟨he, ho, b1, b2, g1, g2, hne, r1, r2, hrow⟩
  refine ⟨he, UnderP.upd h hn (b1 := b1) (b2 := b2) (ho.mono (fun i _ hi => .inl hi)) (r27_row (R := S.R) (ub := ub) (lb := lb) (r := ⟨3, 0, 0, 0⟩) hrow (fun q hq hq4 => ?_) ?_ ?_ ?_ ?_) (Nf_enter _) (fun _ => ⟨r1, r2, ?_, fun m hm hmn hm3 => ?_⟩) (fun _ => .inr ⟨g1, g2⟩)⟩
  · rw [if_neg (by omega), if_neg (by omega), if_neg (by omega), if_neg (by omega)]
  · rw [if_neg (by omega), if_neg (by omega), if_neg (by omega), if_pos rfl]; rfl
  · rw [if_neg (by omega), if_neg (by omega), if_pos rfl]; rfl
  · rw [if_neg (by omega), if_pos rfl]; rfl
  · rw [if_pos rfl]; rfl
  · have a1 := heap_lt h.obj; have a2 := h.rs.lt; have a3 := h.cs.lt; have := h.gB; 
    exact ⟨hne, by omega, by omega, by omega, by omega, by omega, by omega, by omega, by omega⟩
  · have a1 := (h.us m hm hm3).1.lt; have a2 := (h.us m hm hm3).2.lt
    exact ⟨by omega, by omega, by omega, by omega⟩
theorem trainR_nf {f : FD} {l : List Int} {r : RS} {L : Nat} (hL : L = l.length) (h : Nf r L) (h3 : r.ph = 3) : Nf (trainR f l r) L := by
  subst hL
  unfold trainR
  split
  · exact ⟨fun _ => rfl, fun e => absurd e (by decide), fun _ => ⟨rfl, rfl⟩, fun e => absurd e (by decide), Nat.pow_pos (by omega), Nat.pow_pos (by omega), by show (0 : Nat) < 4; omega, by show 0 < 65536; omega⟩
  · refine ⟨fun e => ?_, fun e => ?_, fun e => absurd h3 e, fun _ => h.z3 h3, usedN_lt2 f l h.us _ (Nat.le_refl _), relN_lt2 f l h.rl _ (Nat.le_refl _), h.ph, h.tm⟩
    · have e : r.ph = 0 := e
      rw [h3] at e; cases e
    · have e : r.ph = 1 := e
      rw [h3] at e; cases e
/-- A train goes on. -/
theorem train_at {f : FD} {w : World} {u : Rf} {S : AS} {ub lb : Nat → Nat} (h : R27At w u S ub lb) (hf : f.Ok) (hT : TOk u.T) {n : Nat} (hn : n < u.T.rts.length) (h3 : (S.R n).ph = 3) (vl : Value) (hl : IntsAt u.w0 vl (u.T.rts.getD n rt0).tr) :
    Calls Try.prog 74 #[.pointer (some ⟨u.rb, n * 4, none⟩), vl, .agg #[.int .u32 (f.cl : Int), .int .u32 (f.no : Int), .int .u32 (f.re : Int), .int .u32 (f.ak : Int), .int .u32 (f.ca : Int), .int .u32 (f.rq : Int)]] w fun e w' => e = .returned (.tuple #[]) ∧ UnderP u S ub lb w (S.setR n (trainR f (u.T.rts.getD n rt0).tr (S.R n))) w' := by
  have hlive := h.us n hn h3
  have hoff := h.du n hn h3
  have hnf := h.nf n hn
  have hB := h.B0
  have hv2 : r27V u.T S.R ub lb (n * 4 + 2) = .slice (some ⟨ub n, 0, none⟩) (u.T.rts.getD n rt0).tr.length (u.T.rts.getD n rt0).tr.length := by rw [r27V_2]; unfold ruV; rw [if_pos h3]
  have hv3 : r27V u.T S.R ub lb (n * 4 + 3) = .slice (some ⟨lb n, 0, none⟩) (u.T.rts.getD n rt0).tr.length (u.T.rts.getD n rt0).tr.length := by rw [r27V_3]; unfold ruV; rw [if_pos h3]
  refine (rtrain_any f _ _ (u.T.rts.length * 4) n _ (S.R n).us (S.R n).rl u.rb (ub n) (lb n) vl u.w0 w hl rfl (hT.tl n hn).2 (fun i hi => ⟨(hT.tr n hn i hi).1, by have := (hT.tr n hn i hi).2; omega⟩) hf h.rs (by omega) hv2 hv3 hlive.1 hlive.2 (Ne.symm hoff.r1) (Ne.symm hoff.r2) hoff.ne (by have := h.rB; omega) (by have := hoff.B1; omega) (by have := hoff.B2; omega) h.bel hnf.us hnf.rl).mono ?_
  rintro e w' ⟨he, ho, hy, hno⟩
  have ho2 : Only (fun b => b = u.rb ∨ (S.R n).ph = 3 ∧ (b = ub n ∨ b = lb n)) w w' := ho.mono (fun i _ hi => by
    rcases hi with hi | hi | hi
    · exact .inl hi
    · exact .inr ⟨h3, .inl hi⟩
    · exact .inr ⟨h3, .inr hi⟩)
  refine ⟨he, ?_⟩
  have hnf2 := trainR_nf (f := f) rfl hnf h3
  by_cases hfull : relN f (u.T.rts.getD n rt0).tr (usedN f (u.T.rts.getD n rt0).tr (S.R n).us (u.T.rts.getD n rt0).tr.length) (S.R n).rl (u.T.rts.getD n rt0).tr.length = 2 ^ (u.T.rts.getD n rt0).tr.length - 1
  · have et : trainR f (u.T.rts.getD n rt0).tr (S.R n) = rs0 := if_pos hfull
    rw [et] at hnf2 ⊢
    refine UnderP.upd h hn (b1 := 0) (b2 := 0) ho2 (r27_row (R := S.R) (ub := ub) (lb := lb) (r := rs0) (hy hfull) (fun q hq hq4 => ?_) ?_ ?_ ?_ ?_) hnf2 (fun e => absurd e (by decide)) (fun e => absurd e (by decide))
    · rw [if_neg (by omega), if_neg (by omega), if_neg (by omega), if_neg (by omega)]
    · rw [if_pos rfl]; rfl
    · rw [if_neg (by omega), if_pos rfl]; rfl
    · rw [if_neg (by omega), if_neg (by omega), if_pos rfl]; rfl
    · rw [if_neg (by omega), if_neg (by omega), if_neg (by omega), if_pos rfl]; rfl
  · have et : trainR f (u.T.rts.getD n rt0).tr (S.R n) = { S.R n with us := usedN f (u.T.rts.getD n rt0).tr (S.R n).us (u.T.rts.getD n rt0).tr.length, rl := relN f (u.T.rts.getD n rt0).tr (usedN f (u.T.rts.getD n rt0).tr (S.R n).us (u.T.rts.getD n rt0).tr.length) (S.R n).rl (u.T.rts.getD n rt0).tr.length } := if_neg hfull
    obtain ⟨k1, k2, k3⟩ := hno hfull
    rw [et] at hnf2 ⊢
    refine UnderP.upd h hn (b1 := ub n) (b2 := lb n) ho2 (r27_row (R := S.R) (ub := ub) (lb := lb) k1 (fun q hq hq4 => rfl) ?_ ?_ ?_ ?_) hnf2 (fun _ => ⟨k2, k3, hoff, fun m hm hmn hm3 => h.dd n m hn hm (Ne.symm hmn) h3 hm3⟩) (fun _ => .inl ⟨h3, rfl, rfl⟩)
    · exact r27V_0 _ _ _ _ _
    · exact r27V_1 _ _ _ _ _
    · exact r27V_2 _ _ _ _ _
    · exact r27V_3 _ _ _ _ _
end Go.Proofs.Ytnjeiigdfdjccaa
