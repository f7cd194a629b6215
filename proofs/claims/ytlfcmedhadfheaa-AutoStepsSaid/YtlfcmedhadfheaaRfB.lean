/- The document's table: Must. -/
import Derived.Test.YtlfcmedhadfheaaRfA
namespace Go.Proofs.Ytlfcmedhadfheaa
open Go.RowKit
set_option linter.unusedVariables false
set_option linter.unusedSimpArgs false
def rmustB (P : List Int) (a b : Rt) : Bool :=
  (a.sig == b.sig) || (a.pts.any (lieB P b.tr) || (b.pts.any (lieB P a.tr) || ((a.tr.any fun x => hasI b.tr x) || (a.pts.any fun p => b.pts.any fun q => oppB p q))))
theorem rmustB_eq (P : List Int) (a b : Rt) : rmustB P a b = mustB P a b := by
  have h1 : a.pts.any (lieB P b.tr) = a.pts.any fun p => b.tr.any fun y => liesB P p y := by congr 1; funext p; exact lieB_eq _ _ _
  have h2 : b.pts.any (lieB P a.tr) = b.pts.any fun p => a.tr.any fun y => liesB P p y := by congr 1; funext p; exact lieB_eq _ _ _
  have h3 : (a.tr.any fun x => hasI b.tr x) = a.tr.any fun x => b.tr.any fun y => x == y := by
    congr 1; funext x
    unfold hasI
    congr 1; funext y
    rw [Bool.eq_iff_iff, beq_iff_eq, beq_iff_eq]; exact eq_comm
  unfold rmustB mustB
  rw [h1, h2, h3]
  generalize (a.sig == b.sig) = x0
  generalize (a.pts.any fun p => b.tr.any fun y => liesB P p y) = x1
  generalize (b.pts.any fun p => a.tr.any fun y => liesB P p y) = x2
  generalize (a.tr.any fun x => b.tr.any fun y => x == y) = x3
  generalize (a.pts.any fun p => b.pts.any fun q => oppB p q) = x4
  cases x0 <;> cases x1 <;> cases x2 <;> cases x3 <;> cases x4 <;> rfl
/-- The boxes of Must. -/
structure MW (w wr : World) (tb ab bb : Nat) (TV AV BV : Array Value) : Prop where
  t : wr.heap[tb]? = some (.cells TV 25 (0, 0))
  a : wr.heap[ab]? = some (.cells AV 46 (0, 0))
  b : wr.heap[bb]? = some (.cells BV 46 (0, 0))
  bel : Below w.heap.size w wr
theorem MW.below {w wr wv : World} {tb ab bb : Nat} {TV AV BV : Array Value} (h : MW w wr tb ab bb TV AV BV) (hb : Below wr.heap.size wr wv) : MW w wv tb ab bb TV AV BV :=
  ⟨tb_kept h.t hb, tb_kept h.a hb, tb_kept h.b hb, h.bel.trans (hb.mono h.bel.size)⟩
theorem MW_drewN (w : World) (k : Nat) : Below w.heap.size w (w.drewN k) := ⟨rfl, rfl, rfl, Nat.le_refl _, fun _ _ => rfl⟩
set_option maxRecDepth 100000 in
set_option maxHeartbeats 4000000 in
theorem rmust_any (v va vb : Value) (T : Tab) (A B : Rt) (w : World) (hT : TabAt w v T) (hA : RVal w va A) (hB : RVal w vb B) :
    Calls Try.prog 64 #[v, va, vb] w fun e w' => e = .returned (.bool (mustB T.pts A B)) ∧ Below w.heap.size w w' := by
  rw [← rmustB_eq]
  have HTT := Lib.hid hT
  obtain ⟨⟨vp, vr, rfl, hP, _⟩, _, _⟩ := hT
  obtain ⟨⟨at1, at2, at4, rfl, hA1, hA2, _⟩, _, _, _⟩ := hA
  obtain ⟨⟨bt1, bt2, bt4, rfl, hB1, hB2, _⟩, _, _, _⟩ := hB
  obtain ⟨⟨at1, at1c, rfl, _, qa1, _⟩, _⟩ := id hA1
  obtain ⟨⟨at2, at2c, rfl, _, qa2, _⟩, _⟩ := id hA2
  obtain ⟨⟨bt1, bt1c, rfl, _, qb1, _⟩, _⟩ := id hB1
  obtain ⟨⟨bt2, bt2c, rfl, _, qb2, _⟩, _⟩ := id hB2
  have sa1 := hA1.size; have sa2 := hA2.size; have sb2 := hB2.size
  unfold maxLen at qa1 qa2 qb1 qb2 sa1 sa2 sb2
  have HA1 := Lib.hid hA1; have HA2 := Lib.hid hA2; have HB1 := Lib.hid hB1; have HB2 := Lib.hid hB2
  obtain ⟨w1, hw1⟩ : ∃ w1, w1 = ((w.alloc (.cells #[.int .i64 T.tracks, vp, .int .i64 T.sigs, vr] 25)).alloc (.cells #[.int .i64 A.sig, .slice at1 A.tr.length at1c, .slice at2 A.pts.length at2c, .int .i64 A.app, at4, .int .u16 (A.hold : Int)] 46)).alloc (.cells #[.int .i64 B.sig, .slice bt1 B.tr.length bt1c, .slice bt2 B.pts.length bt2c, .int .i64 B.app, bt4, .int .u16 (B.hold : Int)] 46) := ⟨_, rfl⟩
  have P1 : Hid (MW w w1 w.heap.size (w.heap.size + 1) (w.heap.size + 2) #[.int .i64 T.tracks, vp, .int .i64 T.sigs, vr] #[.int .i64 A.sig, .slice at1 A.tr.length at1c, .slice at2 A.pts.length at2c, .int .i64 A.app, at4, .int .u16 (A.hold : Int)] #[.int .i64 B.sig, .slice bt1 B.tr.length bt1c, .slice bt2 B.pts.length bt2c, .int .i64 B.app, bt4, .int .u16 (B.hold : Int)]) := by
    have a1 := heap_alloc_new w (.cells #[.int .i64 T.tracks, vp, .int .i64 T.sigs, vr] 25)
    have b1 := tb_alloc_below w (.cells #[.int .i64 T.tracks, vp, .int .i64 T.sigs, vr] 25)
    have z1 : (w.alloc (.cells #[.int .i64 T.tracks, vp, .int .i64 T.sigs, vr] 25)).heap.size = w.heap.size + 1 := Array.size_push _
    generalize w.alloc (.cells #[.int .i64 T.tracks, vp, .int .i64 T.sigs, vr] 25) = v1 at *
    have a2 := heap_alloc_new v1 (.cells #[.int .i64 A.sig, .slice at1 A.tr.length at1c, .slice at2 A.pts.length at2c, .int .i64 A.app, at4, .int .u16 (A.hold : Int)] 46)
    have b2 := tb_alloc_below v1 (.cells #[.int .i64 A.sig, .slice at1 A.tr.length at1c, .slice at2 A.pts.length at2c, .int .i64 A.app, at4, .int .u16 (A.hold : Int)] 46)
    have z2 : (v1.alloc (.cells #[.int .i64 A.sig, .slice at1 A.tr.length at1c, .slice at2 A.pts.length at2c, .int .i64 A.app, at4, .int .u16 (A.hold : Int)] 46)).heap.size = v1.heap.size + 1 := Array.size_push _
    generalize v1.alloc (.cells #[.int .i64 A.sig, .slice at1 A.tr.length at1c, .slice at2 A.pts.length at2c, .int .i64 A.app, at4, .int .u16 (A.hold : Int)] 46) = v2 at *
    have a3 := heap_alloc_new v2 (.cells #[.int .i64 B.sig, .slice bt1 B.tr.length bt1c, .slice bt2 B.pts.length bt2c, .int .i64 B.app, bt4, .int .u16 (B.hold : Int)] 46)
    have b3 := tb_alloc_below v2 (.cells #[.int .i64 B.sig, .slice bt1 B.tr.length bt1c, .slice bt2 B.pts.length bt2c, .int .i64 B.app, bt4, .int .u16 (B.hold : Int)] 46)
    generalize v2.alloc (.cells #[.int .i64 B.sig, .slice bt1 B.tr.length bt1c, .slice bt2 B.pts.length bt2c, .int .i64 B.app, bt4, .int .u16 (B.hold : Int)] 46) = v3 at *
    subst hw1
    rw [z1] at a2 z2; rw [z2] at a3
    exact ⟨tb_kept (tb_kept a1 b2) b3, tb_kept a2 b3, a3, b1.trans ((b2.trans (b3.mono (by omega))).mono (by omega))⟩
  have HW1 := Lib.hid hw1
  obtain ⟨tb, htb⟩ : ∃ b, b = w.heap.size := ⟨_, rfl⟩
  obtain ⟨ab, hab⟩ : ∃ b, b = w.heap.size + 1 := ⟨_, rfl⟩
  obtain ⟨bb, hbb⟩ : ∃ b, b = w.heap.size + 2 := ⟨_, rfl⟩
  have HNUM : Hid (w.heap.size = tb ∧ w.heap.size + 1 = ab ∧ w.heap.size + 2 = bb) := ⟨htb.symm, hab.symm, hbb.symm⟩
  rw [← hbb, ← hab, ← htb] at P1
  obtain ⟨F, hF⟩ : ∃ F, F = rmustB T.pts A B := ⟨_, rfl⟩
  rw [← hF]
  have HF : Hid (F = ((A.sig == B.sig) || (A.pts.any (lieB T.pts B.tr) || (B.pts.any (lieB T.pts A.tr) || ((A.tr.any fun x => hasI B.tr x) || (A.pts.any fun p => B.pts.any fun q => oppB p q)))))) := hF
  clear htb hab hbb hF hw1 hP hA1 hA2 hB1 hB2
  go_enter Try.func64, Try.ntmps64
  go_upto_region 1 with fail
  rw [← HW1.out, HNUM.out.2.2, HNUM.out.2.1, HNUM.out.1]
  clear HW1 HNUM
  have t0 := cell_row (j := 0) P1.out.t rfl; have t1 := cell_row (j := 1) P1.out.t rfl; have t2 := cell_row (j := 2) P1.out.t rfl; have t3 := cell_row (j := 3) P1.out.t rfl
  have a0 := cell_row (j := 0) P1.out.a rfl; have a1 := cell_row (j := 1) P1.out.a rfl; have a2 := cell_row (j := 2) P1.out.a rfl
  have b0 := cell_row (j := 0) P1.out.b rfl; have b1 := cell_row (j := 1) P1.out.b rfl; have b2 := cell_row (j := 2) P1.out.b rfl
  have lt := heap_lt P1.out.t; have la := heap_lt P1.out.a; have lb := heap_lt P1.out.b
  cases ts : (A.sig == B.sig)
  case true =>
    have HX : Hid (F = true) := by show _ = _; rw [HF.out, ts]; rfl
    go_wp2_with fail
    go_ret
    exact ⟨congrArg (fun x => Ending.returned (.bool x)) HX.out.symm, P1.out.bel⟩
  case false =>
  rw [ts, Bool.false_or] at HF
  have HL1 := Lib.hid (fun W (hW : Below w.heap.size w W) => lies_any _ _ _ T A.pts B.tr W (HTT.out.below hW) (HA2.out.below hW) (HB1.out.below hW))
  have HL2 := Lib.hid (fun W (hW : Below w.heap.size w W) => lies_any _ _ _ T B.pts A.tr W (HTT.out.below hW) (HB2.out.below hW) (HA1.out.below hW))
  generalize hx1 : A.pts.any (lieB T.pts B.tr) = x1 at *
  generalize hx2 : B.pts.any (lieB T.pts A.tr) = x2 at *
  clear hx1 hx2
  go_wp2_with fail
  refine (HL1.out _ P1.out.bel).mono ?_
  rintro e w2 ⟨rfl, hb⟩
  have P2 := Lib.hid (P1.out.below hb)
  clear hb
  clear t0 t1 t2 t3 a0 a1 a2 b0 b1 b2 lt la lb
  cases x1
  case true =>
    have HX : Hid (F = true) := HF.out
    go_wp2_with fail
    go_ret
    exact ⟨congrArg (fun x => Ending.returned (.bool x)) HX.out.symm, P2.out.bel⟩
  case false =>
  rw [Bool.false_or] at HF
  have t0 := cell_row (j := 0) P2.out.t rfl; have t1 := cell_row (j := 1) P2.out.t rfl; have t2 := cell_row (j := 2) P2.out.t rfl; have t3 := cell_row (j := 3) P2.out.t rfl
  have a0 := cell_row (j := 0) P2.out.a rfl; have a1 := cell_row (j := 1) P2.out.a rfl; have a2 := cell_row (j := 2) P2.out.a rfl
  have b0 := cell_row (j := 0) P2.out.b rfl; have b1 := cell_row (j := 1) P2.out.b rfl; have b2 := cell_row (j := 2) P2.out.b rfl
  have lt := heap_lt P2.out.t; have la := heap_lt P2.out.a; have lb := heap_lt P2.out.b
  go_wp2_with fail
  refine (HL2.out _ P2.out.bel).mono ?_
  rintro e w3 ⟨rfl, hb⟩
  have P3 := Lib.hid (P2.out.below hb)
  clear hb P2 P1 HL1 HL2
  clear t0 t1 t2 t3 a0 a1 a2 b0 b1 b2 lt la lb
  cases x2
  case true =>
    have HX : Hid (F = true) := HF.out
    go_wp2_with fail
    go_ret
    exact ⟨congrArg (fun x => Ending.returned (.bool x)) HX.out.symm, P3.out.bel⟩
  case false =>
  rw [Bool.false_or] at HF
  go_wp2_with fail
  go_loopw [7] (fun i wr => ∃ k : Nat, k ≤ A.tr.length ∧ i = .int .i64 k ∧ (∀ j, j < k → hasI B.tr (A.tr.getD j 0) = false) ∧ MW w wr tb ab bb #[.int .i64 T.tracks, vp, .int .i64 T.sigs, vr] #[.int .i64 A.sig, .slice at1 A.tr.length at1c, .slice at2 A.pts.length at2c, .int .i64 A.app, at4, .int .u16 (A.hold : Int)] #[.int .i64 B.sig, .slice bt1 B.tr.length bt1c, .slice bt2 B.pts.length bt2c, .int .i64 B.app, bt4, .int .u16 (B.hold : Int)]) (fun i _ => A.tr.length - (intOf i).toNat)
  case atStart => exact ⟨0, Nat.zero_le _, rfl, fun j hj => absurd hj (by omega), P3.out⟩
  case round =>
    clear P3
    obtain ⟨k, hk, rfl, hno, hp⟩ := hrel
    have NO := Lib.hid hno; have P4 := Lib.hid hp
    clear hno hp
    have a1 := cell_row (j := 1) P4.out.a rfl; have b1 := cell_row (j := 1) P4.out.b rfl
    have la := heap_lt P4.out.a; have lb := heap_lt P4.out.b
    by_cases hlt : k < A.tr.length
    case pos =>
      obtain ⟨b, off, rfl, hb, x0⟩ := (HA1.out.below P4.out.bel).cell hlt
      have HC := Lib.hid (rhas_q _ _ (A.tr.getD k 0) wr (HB1.out.below P4.out.bel))
      have HLT := Lib.hid hlt
      go_upto_region 6 with fail
      cases hh : hasI B.tr (A.tr.getD k 0)
      case true =>
        have HX : Hid (F = true) := by show _ = _; rw [HF.out, any_getD (p := fun x => hasI B.tr x) hlt hh]; rfl
        rw [hh] at HC
        generalize A.tr.getD k 0 = y at *
        clear hh
        go_quiet ((go_at_call 42; (with_reducible exact HC.out _)))
        have P5 := Lib.hid (P4.out.below (MW_drewN _ nq))
        generalize wr.drewN nq = w5 at *
        clear a1 b1 la lb x0
        go_wp2_with fail
        go_ret
        exact ⟨congrArg (fun x => Ending.returned (.bool x)) HX.out.symm, P5.out.bel⟩
      case false =>
        rw [hh] at HC
        have HH : Hid (∀ j, j < k + 1 → hasI B.tr (A.tr.getD j 0) = false) := fun j hj => by
          by_cases e : j < k
          · exact NO.out j e
          · obtain rfl : j = k := by omega
            exact hh
        generalize A.tr.getD k 0 = y at *
        clear hh
        go_quiet ((go_at_call 42; (with_reducible exact HC.out _)))
        have P5 := Lib.hid (P4.out.below (MW_drewN _ nq))
        generalize wr.drewN nq = w5 at *
        clear a1 b1 la lb x0
        go_wp2_with fail
        go_roundw
        case rel => exact ⟨k + 1, by omega, by go_num, HH.out, P5.out⟩
        case measure => simp [intOf]; omega
    case neg =>
    obtain rfl : k = A.tr.length := by omega
    rw [any_no (p := fun x => hasI B.tr x) NO.out, Bool.false_or] at HF
    go_wp2_with fail
    clear a1 b1 la lb NO
    go_loopw [8, 9] (fun i _j wr => ∃ k : Nat, k ≤ A.pts.length ∧ i = .int .i64 k ∧ (∀ j, j < k → (B.pts.any fun q => oppB (A.pts.getD j (0, false)) q) = false) ∧ MW w wr tb ab bb #[.int .i64 T.tracks, vp, .int .i64 T.sigs, vr] #[.int .i64 A.sig, .slice at1 A.tr.length at1c, .slice at2 A.pts.length at2c, .int .i64 A.app, at4, .int .u16 (A.hold : Int)] #[.int .i64 B.sig, .slice bt1 B.tr.length bt1c, .slice bt2 B.pts.length bt2c, .int .i64 B.app, bt4, .int .u16 (B.hold : Int)]) (fun i _ _ => A.pts.length - (intOf i).toNat)
    case atStart => exact ⟨0, Nat.zero_le _, rfl, fun j hj => absurd hj (by omega), P4.out⟩
    case round =>
      clear P4
      obtain ⟨k, hk, rfl, hno, hp⟩ := hrel
      have NO := Lib.hid hno; have P4 := Lib.hid hp
      clear hno hp
      have a2 := cell_row (j := 2) P4.out.a rfl
      have la := heap_lt P4.out.a
      by_cases hlt : k < A.pts.length
      case pos =>
        have HLT := Lib.hid hlt
        go_wp2_with fail
        clear a2 la
        go_loopw [9] (fun i wr => ∃ n : Nat, n ≤ B.pts.length ∧ i = .int .i64 n ∧ (∀ j, j < n → oppB (A.pts.getD k (0, false)) (B.pts.getD j (0, false)) = false) ∧ MW w wr tb ab bb #[.int .i64 T.tracks, vp, .int .i64 T.sigs, vr] #[.int .i64 A.sig, .slice at1 A.tr.length at1c, .slice at2 A.pts.length at2c, .int .i64 A.app, at4, .int .u16 (A.hold : Int)] #[.int .i64 B.sig, .slice bt1 B.tr.length bt1c, .slice bt2 B.pts.length bt2c, .int .i64 B.app, bt4, .int .u16 (B.hold : Int)]) (fun i _ => B.pts.length - (intOf i).toNat)
        case atStart => exact ⟨0, Nat.zero_le _, rfl, fun j hj => absurd hj (by omega), P4.out⟩
        case round =>
          clear P4
          obtain ⟨n, hn, rfl, hno, hp⟩ := hrel
          have NO2 := Lib.hid hno; have P5 := Lib.hid hp
          clear hno hp
          have a2 := cell_row (j := 2) P5.out.a rfl; have b2 := cell_row (j := 2) P5.out.b rfl
          have la := heap_lt P5.out.a; have lb := heap_lt P5.out.b
          by_cases hln : n < B.pts.length
          case pos =>
            obtain ⟨pb, po, rfl, hpb, x0, x1⟩ := (HA2.out.below P5.out.bel).cell HLT.out
            obtain ⟨qb, qo, rfl, hqb, y0, y1⟩ := (HB2.out.below P5.out.bel).cell hln
            have HYY : Hid (oppB (A.pts.getD k (0, false)) (B.pts.getD n (0, false)) = true → F = true) := fun h => HF.out.trans (any_getD (p := fun p => B.pts.any fun q => oppB p q) HLT.out (any_getD (p := fun q => oppB (A.pts.getD k (0, false)) q) hln h))
            have HNN : Hid (oppB (A.pts.getD k (0, false)) (B.pts.getD n (0, false)) = false → ∀ j, j < n + 1 → oppB (A.pts.getD k (0, false)) (B.pts.getD j (0, false)) = false) := fun h j hj => by
              by_cases e : j < n
              · exact NO2.out j e
              · obtain rfl : j = n := by omega
                exact h
            have HD : Hid (oppB (A.pts.getD k (0, false)) (B.pts.getD n (0, false)) = (((A.pts.getD k (0, false)).1 == (B.pts.getD n (0, false)).1) && ((A.pts.getD k (0, false)).2 != (B.pts.getD n (0, false)).2))) := rfl
            generalize oppB (A.pts.getD k (0, false)) (B.pts.getD n (0, false)) = r at *
            have x0' := x0; have x1' := x1
            generalize (A.pts.getD k (0, false)).1 = p1 at x0 HD
            generalize (A.pts.getD k (0, false)).2 = p2 at x1 HD
            generalize (B.pts.getD n (0, false)).1 = q1 at y0 HD
            generalize (B.pts.getD n (0, false)).2 = q2 at y1 HD
            clear x0' x1'
            go_upto_region 14 with fail
            cases te : (p1 == q1)
            case false =>
              have HR : Hid (r = false) := by show _ = _; rw [HD.out, te]; rfl
              have HN2 := Lib.hid (HNN.out HR.out)
              go_quiet (fail)
              have P6 := Lib.hid (P5.out.below (MW_drewN _ nq))
              generalize wr.drewN nq = w5 at *
              clear a2 b2 la lb x0 x1 y0 y1 hpb hqb
              go_wp2_with fail
              go_roundw
              case rel => exact ⟨n + 1, by omega, by go_num, HN2.out, P6.out⟩
              case measure => simp [intOf]; omega
            case true =>
              rw [te, Bool.true_and] at HD
              cases p2
              case false =>
                cases q2
                case false =>
                  have HR : Hid (r = false) := HD.out
                  have HN2 := Lib.hid (HNN.out HR.out)
                  go_quiet (fail)
                  have P6 := Lib.hid (P5.out.below (MW_drewN _ nq))
                  generalize wr.drewN nq = w5 at *
                  clear a2 b2 la lb x0 x1 y0 y1 hpb hqb
                  go_wp2_with fail
                  go_roundw
                  case rel => exact ⟨n + 1, by omega, by go_num, HN2.out, P6.out⟩
                  case measure => simp [intOf]; omega
                case true =>
                  have HX : Hid (F = true) := HYY.out HD.out
                  go_quiet (fail)
                  have P6 := Lib.hid (P5.out.below (MW_drewN _ nq))
                  generalize wr.drewN nq = w5 at *
                  clear a2 b2 la lb x0 x1 y0 y1 hpb hqb
                  go_wp2_with fail
                  go_ret
                  exact ⟨congrArg (fun x => Ending.returned (.bool x)) HX.out.symm, P6.out.bel⟩
              case true =>
                cases q2
                case true =>
                  have HR : Hid (r = false) := HD.out
                  have HN2 := Lib.hid (HNN.out HR.out)
                  go_quiet (fail)
                  have P6 := Lib.hid (P5.out.below (MW_drewN _ nq))
                  generalize wr.drewN nq = w5 at *
                  clear a2 b2 la lb x0 x1 y0 y1 hpb hqb
                  go_wp2_with fail
                  go_roundw
                  case rel => exact ⟨n + 1, by omega, by go_num, HN2.out, P6.out⟩
                  case measure => simp [intOf]; omega
                case false =>
                  have HX : Hid (F = true) := HYY.out HD.out
                  go_quiet (fail)
                  have P6 := Lib.hid (P5.out.below (MW_drewN _ nq))
                  generalize wr.drewN nq = w5 at *
                  clear a2 b2 la lb x0 x1 y0 y1 hpb hqb
                  go_wp2_with fail
                  go_ret
                  exact ⟨congrArg (fun x => Ending.returned (.bool x)) HX.out.symm, P6.out.bel⟩
          case neg =>
          obtain rfl : n = B.pts.length := by omega
          have HNN : Hid (∀ j, j < k + 1 → (B.pts.any fun q => oppB (A.pts.getD j (0, false)) q) = false) := fun j hj => by
            by_cases e : j < k
            · exact NO.out j e
            · obtain rfl : j = k := by omega
              exact any_no NO2.out
          go_wp2_with fail
          clear a2 b2 la lb
          go_roundw
          case rel => exact ⟨k + 1, by have := HLT.out; omega, by go_num, HNN.out, P5.out⟩
          case measure => have := HLT.out; simp [intOf]; omega
      case neg =>
      obtain rfl : k = A.pts.length := by omega
      have HX : Hid (F = false) := by show _ = _; rw [HF.out]; exact any_no NO.out
      go_wp2_with fail
      go_ret
      exact ⟨congrArg (fun x => Ending.returned (.bool x)) HX.out.symm, P4.out.bel⟩
end Go.Proofs.Ytlfcmedhadfheaa
