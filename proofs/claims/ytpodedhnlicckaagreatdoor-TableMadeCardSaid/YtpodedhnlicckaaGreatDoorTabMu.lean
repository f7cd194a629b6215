/- must. -/
import Derived.Test.YtpodedhnlicckaaGreatDoorTabM
namespace Go.Proofs.YtpodedhnlicckaaGreatDoor
open Go.RowKit
set_option linter.unusedVariables false
set_option linter.unusedSimpArgs false
theorem must1_any (x y : Int) (w : World) : Calls Tryz.prog 70 #[.int .i64 x, .int .i64 y] w fun e w' => e = .returned (.bool (x == y)) ∧ Below w.heap.size w w' := by
  go_enter Tryz.func70, Tryz.ntmps70
  go_wp2_with fail
  go_ret
  exact ⟨rfl, Below.refl _ _⟩
def oppB (p q : Int × Bool) : Bool := (p.1 == q.1) && (p.2 != q.2)
theorem must3_any (p q : Int × Bool) (w : World) : Calls Tryz.prog 75 #[.agg #[.int .i64 p.1, .bool p.2], .agg #[.int .i64 q.1, .bool q.2]] w fun e w' => e = .returned (.bool (oppB p q)) ∧ Below w.heap.size w w' := by
  have HP : Hid (oppB p q = ((p.1 == q.1) && (p.2 != q.2))) := rfl
  rw [HP.out]
  clear HP
  obtain ⟨a, b⟩ := p
  obtain ⟨c, d⟩ := q
  simp only
  have B2 : Hid (Below w.heap.size w ((w.alloc (.cells #[.int .i64 a, .bool b] 57)).alloc (.cells #[.int .i64 c, .bool d] 57))) := (tb_alloc_below w _).alloc (tb_alloc_below w _).size _
  cases t : (a == c)
  case false =>
    go_enter Tryz.func75, Tryz.ntmps75
    go_wp2_with fail
    go_ret
    exact ⟨rfl, B2.out⟩
  case true =>
    go_enter Tryz.func75, Tryz.ntmps75
    go_wp2_with fail
    go_ret
    exact ⟨by first | rfl | simp, B2.out⟩
def liesB (P : List Int) (p : Int × Bool) (x : Int) : Bool := decide (0 ≤ p.1) && decide (p.1 < (P.length : Int)) && (P.getD p.1.toNat 0 == x)
set_option maxHeartbeats 1000000 in
theorem must2_any (p : Int × Bool) (x : Int) (P : List Int) (t s : Int) (vp vr : Value) (tb : Nat) (w : World) (hv : IntsAt w vp P) (ht : w.heap[tb]? = some (.cells #[.int .i64 t, vp, .int .i64 s, vr] 25 (0, 0))) :
    Calls Tryz.prog 71 #[.agg #[.int .i64 p.1, .bool p.2], .int .i64 x, .pointer (some ⟨tb, 0, none⟩)] w fun e w' => e = .returned (.bool (liesB P p x)) ∧ Below w.heap.size w w' := by
  have HP : Hid (liesB P p x = (decide (0 ≤ p.1) && decide (p.1 < (P.length : Int)) && (P.getD p.1.toNat 0 == x))) := rfl
  rw [HP.out]
  clear HP
  have hsz := hv.size
  unfold maxLen at hsz
  obtain ⟨a, c, rfl, hlc, hcm, _⟩ := hv.at_
  have HV := Lib.hid hv
  obtain ⟨y, z⟩ := p
  simp only
  have B1 : Hid (Below w.heap.size w (w.alloc (.cells #[.int .i64 y, .bool z] 57))) := tb_alloc_below _ _
  have c1 := cell_row (j := 1) ht rfl
  have l1 := heap_lt ht
  clear hv ht
  by_cases t1 : 0 ≤ y
  · obtain ⟨k, rfl⟩ := Int.eq_ofNat_of_zero_le t1
    have t1' : decide (0 ≤ (k : Int)) = true := by simp
    have ek : (Int.ofNat k).toNat = k := rfl
    have ek2 : ((k : Int)).toNat = k := by simp
    by_cases t2 : k < P.length
    · have t2' : decide ((k : Int) < (P.length : Int)) = true := by simp; omega
      have n2 : decide (k < P.length) = true := by simp; omega
      obtain ⟨b, off, rfl, hb, x0⟩ := HV.out.cell t2
      rw [t1', t2', ek2]
      generalize P.getD k 0 = u at *
      clear t1 ek ek2
      go_enter Tryz.func71, Tryz.ntmps71
      go_wp2_with fail
      go_ret
      exact ⟨by first | rfl | simp, B1.out⟩
    · have t2' : decide ((k : Int) < (P.length : Int)) = false := by simp; omega
      have n2 : decide (k < P.length) = false := by simp; omega
      rw [t1', t2', Bool.and_false, Bool.false_and]
      clear t1 ek ek2
      go_enter Tryz.func71, Tryz.ntmps71
      go_wp2_with fail
      go_ret
      exact ⟨by first | rfl | simp, B1.out⟩
  · have t1' : decide (0 ≤ y) = false := by simp; omega
    rw [t1', Bool.false_and, Bool.false_and]
    go_enter Tryz.func71, Tryz.ntmps71
    go_wp2_with fail
    go_ret
    exact ⟨by first | rfl | simp, B1.out⟩
/-- A route by value. -/
structure RVal (w : World) (v : Value) (r : Rt) : Prop where
  at_ : ∃ vt vp vc, v = .agg #[.int .i64 r.sig, vt, vp, .int .i64 r.app, vc, .int .u16 (r.hold : Int)] ∧ IntsAt w vt r.tr ∧ PtsAt w vp r.pts ∧ IntsAt w vc r.con
  sigOk : i64ok r.sig
  appOk : i64ok r.app
  holdOk : r.hold < 65536
theorem RVal.below {w w' : World} {v : Value} {r : Rt} (h : RVal w v r) (hb : Below w.heap.size w w') : RVal w' v r := by
  obtain ⟨⟨vt, vp, vc, e, h1, h2, h3⟩, h4, h5, h6⟩ := h
  exact ⟨⟨vt, vp, vc, e, h1.below hb, h2.below hb, h3.below hb⟩, h4, h5, h6⟩
theorem RtAt.rval {w : World} {C : Nat → Value} {r : Rt} (h : RtAt w C r) : RVal w (.agg #[C 0, C 1, C 2, C 3, C 4, C 5]) r := by
  refine ⟨⟨C 1, C 2, C 4, ?_, h.tr, h.pts, h.con⟩, h.sigOk, h.appOk, h.holdOk⟩
  rw [h.sig, h.app, h.hold]
def mustB (P : List Int) (a b : Rt) : Bool :=
  (a.sig == b.sig) || ((a.tr.any fun x => b.tr.any fun y => x == y) || ((a.pts.any fun p => b.tr.any fun y => liesB P p y) || ((b.pts.any fun p => a.tr.any fun y => liesB P p y) || (a.pts.any fun p => b.pts.any fun q => oppB p q))))
end Go.Proofs.YtpodedhnlicckaaGreatDoor
