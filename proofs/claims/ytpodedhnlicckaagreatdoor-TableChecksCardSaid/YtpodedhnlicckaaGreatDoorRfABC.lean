/- The document's table: Has, once, lies. -/
import Derived.Test.YtpodedhnlicckaaGreatDoorTabK
namespace Go.Proofs.YtpodedhnlicckaaGreatDoor
open Go.RowKit
set_option linter.unusedVariables false
set_option linter.unusedSimpArgs false
set_option maxHeartbeats 1000000 in
theorem rhas_any (v : Value) (l : List Int) (x : Int) (w : World) (h : IntsAt w v l) :
    Calls Tryz.prog 41 #[v, .int .i64 x] w fun e w' => e = .returned (.bool (hasI l x)) ∧ w' = w := by
  have hsz := h.size
  unfold maxLen at hsz
  obtain ⟨a, c, rfl, hlc, hcm, _⟩ := h.at_
  have H := Lib.hid h
  clear h
  obtain ⟨F, hF⟩ : ∃ F, F = hasI l x := ⟨_, rfl⟩
  rw [← hF]
  have HF := Lib.hid hF
  clear hF
  go_enter Tryz.func41, Tryz.ntmps41
  go_wp2_with fail
  go_loopw [5] (fun i wr => ∃ k : Nat, k ≤ l.length ∧ i = .int .i64 k ∧ (∀ j, j < k → l.getD j 0 ≠ x) ∧ wr = w) (fun i _ => l.length - (intOf i).toNat)
  case atStart => exact ⟨0, Nat.zero_le _, rfl, fun j hj => absurd hj (by omega), by first | trivial | rfl⟩
  case round =>
    obtain ⟨k, hk, rfl, hno, rfl⟩ := hrel
    have NO := Lib.hid hno
    clear hno
    by_cases hlt : k < l.length
    · obtain ⟨b, off, rfl, hb, x0⟩ := H.out.cell hlt
      by_cases hx : l.getD k 0 = x
      · have HT : Hid (F = true) := HF.out.trans (hasI_iff.2 ⟨k, hlt, hx⟩)
        have t : (l.getD k 0 == x) = true := by simpa using hx
        clear hx
        generalize l.getD k 0 = y at *
        go_wp2_with fail
        go_ret
        exact ⟨congrArg (fun x => Ending.returned (.bool x)) HT.out.symm, by first | trivial | rfl⟩
      · have HX := Lib.hid hx
        have t : (l.getD k 0 == x) = false := by simpa using hx
        clear hx
        generalize hy : l.getD k 0 = y at *
        have HY := Lib.hid hy
        clear hy
        go_wp2_with fail
        go_roundw
        case rel => exact ⟨k + 1, by omega, by go_num, fun j hj => (by
          by_cases e : j < k
          · exact NO.out j e
          · obtain rfl : j = k := by omega
            rw [HY.out]; exact HX.out), by first | trivial | rfl⟩
        case measure => simp [intOf]; omega
    · obtain rfl : k = l.length := by omega
      have HT : Hid (F = false) := HF.out.trans (hasI_no NO.out)
      go_wp2_with fail
      go_ret
      exact ⟨congrArg (fun x => Ending.returned (.bool x)) HT.out.symm, by first | trivial | rfl⟩
theorem rhas_q (v : Value) (l : List Int) (x : Int) (w : World) (h : IntsAt w v l) (n : Nat) :
    Calls Tryz.prog 41 #[v, .int .i64 x] (w.drewN n) fun e w' => e = .returned (.bool (hasI l x)) ∧ ∃ m, w' = w.drewN m :=
  Calls.quiet_of_same (rhas_any v l x _ (h.below ⟨rfl, rfl, rfl, Nat.le_refl _, fun _ _ => rfl⟩))
set_option maxHeartbeats 2000000 in
theorem once_any (v : Value) (l : List Int) (n : Int) (w : World) (h : IntsAt w v l) :
    Calls Tryz.prog 82 #[v, .int .i64 n] w fun e w' => e = .returned (.bool (withinI l n)) ∧ Below w.heap.size w w' := by
  have hsz := h.size
  unfold maxLen at hsz
  obtain ⟨a, c, rfl, hlc, hcm, _⟩ := h.at_
  unfold maxLen at hcm
  have H := Lib.hid h
  clear h
  obtain ⟨F, hF⟩ : ∃ F, F = withinI l n := ⟨_, rfl⟩
  rw [← hF]
  have HF := Lib.hid hF
  clear hF
  go_enter Tryz.func82, Tryz.ntmps82
  go_wp2_with fail
  go_loopw [5] (fun i wr => ∃ k : Nat, k ≤ l.length ∧ i = .int .i64 k ∧ (∀ j, j < k → 0 ≤ l.getD j 0 ∧ l.getD j 0 < n ∧ hasI (l.take j) (l.getD j 0) = false) ∧ Below w.heap.size w wr) (fun i _ => l.length - (intOf i).toNat)
  case atStart => exact ⟨0, Nat.zero_le _, rfl, fun j hj => absurd hj (by omega), Below.refl _ _⟩
  case round =>
    obtain ⟨k, hk, rfl, hno, hbel⟩ := hrel
    have NO := Lib.hid hno
    have B1 := Lib.hid hbel
    clear hno hbel
    by_cases hlt : k < l.length
    · obtain ⟨b, off, rfl, hb, x0⟩ := (H.out.below B1.out).cell hlt
      have HT := Lib.hid ((H.out.take hk).below B1.out)
      generalize hy : l.getD k 0 = y at *
      have HY := Lib.hid hy
      clear hy
      have HC := Lib.hid (fun n => rhas_q _ _ y wr HT.out n)
      go_upto_region 4 with fail
      by_cases t1 : y < 0
      · have t1' : decide (y < 0) = true := by simpa using t1
        have HH : Hid (¬ (0 ≤ y ∧ y < n ∧ hasI (l.take k) y = false)) := fun h => by have := h.1; omega
        have HX : Hid (F = false) := by
          show _ = _
          rw [HF.out]
          refine withinI_no hlt ?_
          rw [HY.out]
          exact HH.out
        go_quiet ((go_at_call 41; (with_reducible exact HC.out _)))
        have B2 : Hid (Below w.heap.size w (wr.drewN nq)) := ⟨B1.out.os, B1.out.tape, B1.out.output, B1.out.size, B1.out.block⟩
        generalize wr.drewN nq = w2 at *
        go_wp2_with fail
        go_ret
        exact ⟨congrArg (fun x => Ending.returned (.bool x)) HX.out.symm, B2.out⟩
      · have t1' : decide (y < 0) = false := by simpa using t1
        by_cases t2 : n ≤ y
        · have t2' : decide (n ≤ y) = true := by simpa using t2
          have HH : Hid (¬ (0 ≤ y ∧ y < n ∧ hasI (l.take k) y = false)) := fun h => by have := h.2.1; omega
          have HX : Hid (F = false) := by
            show _ = _
            rw [HF.out]
            refine withinI_no hlt ?_
            rw [HY.out]
            exact HH.out
          go_quiet ((go_at_call 41; (with_reducible exact HC.out _)))
          have B2 : Hid (Below w.heap.size w (wr.drewN nq)) := ⟨B1.out.os, B1.out.tape, B1.out.output, B1.out.size, B1.out.block⟩
          generalize wr.drewN nq = w2 at *
          go_wp2_with fail
          go_ret
          exact ⟨congrArg (fun x => Ending.returned (.bool x)) HX.out.symm, B2.out⟩
        · have t2' : decide (n ≤ y) = false := by simp; omega
          have HR : Hid (0 ≤ y ∧ y < n) := ⟨by omega, by omega⟩
          cases hh : hasI (l.take k) y
          case true =>
            rw [hh] at HC
            have HH : Hid (¬ (0 ≤ y ∧ y < n ∧ hasI (l.take k) y = false)) := fun h => by rw [hh] at h; cases h.2.2
            clear hh
            have HX : Hid (F = false) := by
              show _ = _
              rw [HF.out]
              refine withinI_no hlt ?_
              rw [HY.out]
              exact HH.out
            go_quiet ((go_at_call 41; (with_reducible exact HC.out _)))
            have B2 : Hid (Below w.heap.size w (wr.drewN nq)) := ⟨B1.out.os, B1.out.tape, B1.out.output, B1.out.size, B1.out.block⟩
            generalize wr.drewN nq = w2 at *
            go_wp2_with fail
            go_ret
            exact ⟨congrArg (fun x => Ending.returned (.bool x)) HX.out.symm, B2.out⟩
          case false =>
            rw [hh] at HC
            have HH := Lib.hid hh
            clear hh
            go_quiet ((go_at_call 41; (with_reducible exact HC.out _)))
            have B2 : Hid (Below w.heap.size w (wr.drewN nq)) := ⟨B1.out.os, B1.out.tape, B1.out.output, B1.out.size, B1.out.block⟩
            generalize wr.drewN nq = w2 at *
            go_wp2_with fail
            go_roundw
            case rel => exact ⟨k + 1, by omega, by go_num, fun j hj => (by
              by_cases e : j < k
              · exact NO.out j e
              · obtain rfl : j = k := by omega
                rw [HY.out]; exact ⟨HR.out.1, HR.out.2, HH.out⟩), B2.out⟩
            case measure => simp [intOf]; omega
    · obtain rfl : k = l.length := by omega
      have HX : Hid (F = true) := by show _ = _; rw [HF.out]; exact withinI_iff.2 NO.out
      go_wp2_with fail
      go_ret
      exact ⟨congrArg (fun x => Ending.returned (.bool x)) HX.out.symm, B1.out⟩
/-- A point that a route needs lies in one of the tracks. -/
def lieB (P : List Int) (tr : List Int) (p : Int × Bool) : Bool := decide (0 ≤ p.1) && decide (p.1 < (P.length : Int)) && hasI tr (P.getD p.1.toNat 0)
theorem lieB_eq (P tr : List Int) (p : Int × Bool) : lieB P tr p = tr.any fun y => liesB P p y := by
  unfold lieB liesB hasI
  rw [Bool.eq_iff_iff]
  simp only [Bool.and_eq_true, List.any_eq_true, beq_iff_eq, decide_eq_true_eq]
  constructor
  · rintro ⟨⟨h1, h2⟩, y, h3, h4⟩; exact ⟨y, h3, ⟨h1, h2⟩, h4.symm⟩
  · rintro ⟨y, h3, ⟨h1, h2⟩, h4⟩; exact ⟨⟨h1, h2⟩, y, h3, h4.symm⟩
theorem any_no {α : Type} {l : List α} {d : α} {p : α → Bool} (h : ∀ j, j < l.length → p (l.getD j d) = false) : l.any p = false := by
  rw [List.any_eq_false]
  intro x hx
  obtain ⟨i, hi, rfl⟩ := List.mem_iff_getElem.1 hx
  have := h i hi
  rw [List.getD_eq_getElem?_getD, List.getElem?_eq_getElem hi] at this
  simpa using this
set_option maxHeartbeats 2000000 in
theorem lies_any (v vl vt : Value) (T : Tab) (l : List (Int × Bool)) (tr : List Int) (w : World) (hT : TabAt w v T) (hl : PtsAt w vl l) (ht : IntsAt w vt tr) :
    Calls Tryz.prog 81 #[v, vl, vt] w fun e w' => e = .returned (.bool (l.any (lieB T.pts tr))) ∧ Below w.heap.size w w' := by
  obtain ⟨⟨vp, vr, rfl, hP, _⟩, _, _⟩ := hT
  have hsz := hl.size
  have hpsz := hP.size
  unfold maxLen at hsz hpsz
  obtain ⟨pa, pc, rfl, hpc, hpm, _⟩ := hl.at_
  obtain ⟨va, vc, rfl, hvl, hvm, _⟩ := hP.at_
  unfold maxLen at hpm hvm
  have HL := Lib.hid hl; have HT := Lib.hid ht; have HP := Lib.hid hP
  obtain ⟨w1, hw1⟩ : ∃ w1, w1 = w.alloc (.cells #[.int .i64 T.tracks, .slice va T.pts.length vc, .int .i64 T.sigs, vr] 25) := ⟨_, rfl⟩
  have B1 : Hid (Below w.heap.size w w1) := by rw [hw1]; exact tb_alloc_below _ _
  have K1 : Hid (w1.heap[w.heap.size]? = some (.cells #[.int .i64 T.tracks, .slice va T.pts.length vc, .int .i64 T.sigs, vr] 25 (0, 0))) := by rw [hw1]; exact heap_alloc_new _ _
  have HW1 := Lib.hid hw1
  obtain ⟨F, hF⟩ : ∃ F, F = l.any (lieB T.pts tr) := ⟨_, rfl⟩
  rw [← hF]
  have HF := Lib.hid hF
  clear hF hw1 hl ht hP
  go_enter Tryz.func81, Tryz.ntmps81
  go_upto_region 1 with fail
  rw [← HW1.out]
  obtain ⟨tb, htb⟩ : ∃ b, b = w.heap.size := ⟨_, rfl⟩
  have HTB := Lib.hid htb
  rw [← htb] at K1 ⊢
  clear htb HW1
  go_wp2_with fail
  go_loopw [7] (fun i wr => ∃ k : Nat, k ≤ l.length ∧ i = .int .i64 k ∧ (∀ j, j < k → lieB T.pts tr (l.getD j (0, false)) = false) ∧ Below w1.heap.size w1 wr) (fun i _ => l.length - (intOf i).toNat)
  case atStart => exact ⟨0, Nat.zero_le _, rfl, fun j hj => absurd hj (by omega), Below.refl _ _⟩
  case round =>
    obtain ⟨k, hk, rfl, hno, hbel⟩ := hrel
    have NO := Lib.hid hno
    have B2 := Lib.hid hbel
    have BW : Hid (Below w.heap.size w wr) := B1.out.trans (hbel.mono B1.out.size)
    clear hno hbel
    by_cases hlt : k < l.length
    · obtain ⟨b, off, rfl, hb, x0, x1⟩ := (HL.out.below BW.out).cell hlt
      have c1 := cell_row (j := 1) (tb_kept K1.out B2.out) rfl
      have l1 := heap_lt (tb_kept K1.out B2.out)
      have HY : Hid (∀ r, lieB T.pts tr (l.getD k (0, false)) = r → r = false → ∀ j, j < k + 1 → lieB T.pts tr (l.getD j (0, false)) = false) := fun r h1 h2 j hj => by
        by_cases e : j < k
        · exact NO.out j e
        · obtain rfl : j = k := by omega
          rw [h1, h2]
      have HYY : Hid (lieB T.pts tr (l.getD k (0, false)) = true → F = true) := fun h => HF.out.trans (any_getD hlt h)
      have HD : Hid (lieB T.pts tr (l.getD k (0, false)) = (decide (0 ≤ (l.getD k (0, false)).1) && decide ((l.getD k (0, false)).1 < (T.pts.length : Int)) && hasI tr (T.pts.getD (l.getD k (0, false)).1.toNat 0))) := rfl
      generalize lieB T.pts tr (l.getD k (0, false)) = r at *
      generalize l.getD k (0, false) = p at *
      obtain ⟨y, z⟩ := p
      simp only at x0 x1 HD
      clear x1
      by_cases t1 : 0 ≤ y
      · obtain ⟨q, rfl⟩ := Int.eq_ofNat_of_zero_le t1
        by_cases t2 : q < T.pts.length
        · have t2' : decide ((q : Int) < (T.pts.length : Int)) = true := by simp; omega
          obtain ⟨b2, off2, rfl, hb2, y0⟩ := (HP.out.below BW.out).cell t2
          have HC := Lib.hid (rhas_any vt tr (T.pts.getD q 0) wr (HT.out.below BW.out))
          have HR0 : Hid (r = hasI tr (T.pts.getD q 0)) := by show _ = _; rw [HD.out, t2']; simp
          generalize T.pts.getD q 0 = u at *
          have BN := BW
          clear HD t1
          cases hh : hasI tr u
          case true =>
            rw [hh] at HC HR0
            have HX : Hid (F = true) := HYY.out HR0.out
            clear hh
            go_wp2_with fail
            refine HC.out.mono ?_
            rintro e w3 ⟨rfl, rfl⟩
            go_wp2_with fail
            go_ret
            exact ⟨congrArg (fun x => Ending.returned (.bool x)) HX.out.symm, BW.out⟩
          case false =>
            rw [hh] at HC HR0
            have HR := HR0
            have BN := B2
            clear hh
            go_wp2_with fail
            refine HC.out.mono ?_
            rintro e w3 ⟨rfl, rfl⟩
            clear y0 hb2
            go_wp2_with fail
            go_roundw
            case rel => exact ⟨k + 1, by omega, by go_num, HY.out _ rfl HR.out, BN.out⟩
            case measure => simp [intOf]; omega
        · have t2' : decide ((q : Int) < (T.pts.length : Int)) = false := by simp; omega
          have HR : Hid (r = false) := by show _ = _; rw [HD.out, t2']; simp
          have BN := B2
          clear HD t1
          go_wp2_with fail
          go_roundw
          case rel => exact ⟨k + 1, by omega, by go_num, HY.out _ rfl HR.out, BN.out⟩
          case measure => simp [intOf]; omega
      · have t1' : decide (0 ≤ y) = false := by simp; omega
        have HR : Hid (r = false) := by show _ = _; rw [HD.out, t1']; simp
        have BN := B2
        clear HD
        go_wp2_with fail
        go_roundw
        case rel => exact ⟨k + 1, by omega, by go_num, HY.out _ rfl HR.out, BN.out⟩
        case measure => simp [intOf]; omega
    · obtain rfl : k = l.length := by omega
      have HX : Hid (F = false) := HF.out.trans (any_no NO.out)
      go_wp2_with fail
      go_ret
      exact ⟨congrArg (fun x => Ending.returned (.bool x)) HX.out.symm, BW.out⟩
end Go.Proofs.YtpodedhnlicckaaGreatDoor
/- The document's table: Must. -/
namespace Go.Proofs.YtpodedhnlicckaaGreatDoor
open Go.RowKit
set_option linter.unusedVariables false
set_option linter.unusedSimpArgs false
def rmustB (P : List Int) (a b : Rt) : Bool :=
  (a.sig == b.sig) || (a.pts.any (lieB P b.tr) || (b.pts.any (lieB P a.tr) || ((a.tr.any fun x => hasI b.tr x) || (a.pts.any fun p => b.pts.any fun q => oppB p q))))
theorem rmustB_eq (P : List Int) (a b : Rt) : rmustB P a b = mustB P a b := by
  have h1 : a.pts.any (lieB P b.tr) = a.pts.any fun p => b.tr.any fun y => liesB P p y := by congr 1; funext p; exact lieB_eq _ _ _
  have h2 : b.pts.any (lieB P a.tr) = b.pts.any fun p => a.tr.any fun y => liesB P p y := by congr 1; funext p; exact lieB_eq _ _ _
  have h3 : (a.tr.any fun x => hasI b.tr x) = a.tr.any fun x => b.tr.any fun y => x == y := by
    congr 1; funext x
    unfold hasI
    congr 1; funext y
    rw [Bool.eq_iff_iff, beq_iff_eq, beq_iff_eq]; exact eq_comm
  unfold rmustB mustB
  rw [h1, h2, h3]
  generalize (a.sig == b.sig) = x0
  generalize (a.pts.any fun p => b.tr.any fun y => liesB P p y) = x1
  generalize (b.pts.any fun p => a.tr.any fun y => liesB P p y) = x2
  generalize (a.tr.any fun x => b.tr.any fun y => x == y) = x3
  generalize (a.pts.any fun p => b.pts.any fun q => oppB p q) = x4
  cases x0 <;> cases x1 <;> cases x2 <;> cases x3 <;> cases x4 <;> rfl
/-- The boxes of Must. -/
structure MW (w wr : World) (tb ab bb : Nat) (TV AV BV : Array Value) : Prop where
  t : wr.heap[tb]? = some (.cells TV 25 (0, 0))
  a : wr.heap[ab]? = some (.cells AV 30 (0, 0))
  b : wr.heap[bb]? = some (.cells BV 30 (0, 0))
  bel : Below w.heap.size w wr
theorem MW.below {w wr wv : World} {tb ab bb : Nat} {TV AV BV : Array Value} (h : MW w wr tb ab bb TV AV BV) (hb : Below wr.heap.size wr wv) : MW w wv tb ab bb TV AV BV :=
  ⟨tb_kept h.t hb, tb_kept h.a hb, tb_kept h.b hb, h.bel.trans (hb.mono h.bel.size)⟩
theorem MW_drewN (w : World) (k : Nat) : Below w.heap.size w (w.drewN k) := ⟨rfl, rfl, rfl, Nat.le_refl _, fun _ _ => rfl⟩
set_option maxRecDepth 100000 in
set_option maxHeartbeats 4000000 in
theorem rmust_any (v va vb : Value) (T : Tab) (A B : Rt) (w : World) (hT : TabAt w v T) (hA : RVal w va A) (hB : RVal w vb B) :
    Calls Tryz.prog 39 #[v, va, vb] w fun e w' => e = .returned (.bool (mustB T.pts A B)) ∧ Below w.heap.size w w' := by
  rw [← rmustB_eq]
  have HTT := Lib.hid hT
  obtain ⟨⟨vp, vr, rfl, hP, _⟩, _, _⟩ := hT
  obtain ⟨⟨at1, at2, at4, rfl, hA1, hA2, _⟩, _, _, _⟩ := hA
  obtain ⟨⟨bt1, bt2, bt4, rfl, hB1, hB2, _⟩, _, _, _⟩ := hB
  obtain ⟨⟨at1, at1c, rfl, _, qa1, _⟩, _⟩ := id hA1
  obtain ⟨⟨at2, at2c, rfl, _, qa2, _⟩, _⟩ := id hA2
  obtain ⟨⟨bt1, bt1c, rfl, _, qb1, _⟩, _⟩ := id hB1
  obtain ⟨⟨bt2, bt2c, rfl, _, qb2, _⟩, _⟩ := id hB2
  have sa1 := hA1.size; have sa2 := hA2.size; have sb2 := hB2.size
  unfold maxLen at qa1 qa2 qb1 qb2 sa1 sa2 sb2
  have HA1 := Lib.hid hA1; have HA2 := Lib.hid hA2; have HB1 := Lib.hid hB1; have HB2 := Lib.hid hB2
  obtain ⟨w1, hw1⟩ : ∃ w1, w1 = ((w.alloc (.cells #[.int .i64 T.tracks, vp, .int .i64 T.sigs, vr] 25)).alloc (.cells #[.int .i64 A.sig, .slice at1 A.tr.length at1c, .slice at2 A.pts.length at2c, .int .i64 A.app, at4, .int .u16 (A.hold : Int)] 30)).alloc (.cells #[.int .i64 B.sig, .slice bt1 B.tr.length bt1c, .slice bt2 B.pts.length bt2c, .int .i64 B.app, bt4, .int .u16 (B.hold : Int)] 30) := ⟨_, rfl⟩
  have P1 : Hid (MW w w1 w.heap.size (w.heap.size + 1) (w.heap.size + 2) #[.int .i64 T.tracks, vp, .int .i64 T.sigs, vr] #[.int .i64 A.sig, .slice at1 A.tr.length at1c, .slice at2 A.pts.length at2c, .int .i64 A.app, at4, .int .u16 (A.hold : Int)] #[.int .i64 B.sig, .slice bt1 B.tr.length bt1c, .slice bt2 B.pts.length bt2c, .int .i64 B.app, bt4, .int .u16 (B.hold : Int)]) := by
    have a1 := heap_alloc_new w (.cells #[.int .i64 T.tracks, vp, .int .i64 T.sigs, vr] 25)
    have b1 := tb_alloc_below w (.cells #[.int .i64 T.tracks, vp, .int .i64 T.sigs, vr] 25)
    have z1 : (w.alloc (.cells #[.int .i64 T.tracks, vp, .int .i64 T.sigs, vr] 25)).heap.size = w.heap.size + 1 := Array.size_push _
    generalize w.alloc (.cells #[.int .i64 T.tracks, vp, .int .i64 T.sigs, vr] 25) = v1 at *
    have a2 := heap_alloc_new v1 (.cells #[.int .i64 A.sig, .slice at1 A.tr.length at1c, .slice at2 A.pts.length at2c, .int .i64 A.app, at4, .int .u16 (A.hold : Int)] 30)
    have b2 := tb_alloc_below v1 (.cells #[.int .i64 A.sig, .slice at1 A.tr.length at1c, .slice at2 A.pts.length at2c, .int .i64 A.app, at4, .int .u16 (A.hold : Int)] 30)
    have z2 : (v1.alloc (.cells #[.int .i64 A.sig, .slice at1 A.tr.length at1c, .slice at2 A.pts.length at2c, .int .i64 A.app, at4, .int .u16 (A.hold : Int)] 30)).heap.size = v1.heap.size + 1 := Array.size_push _
    generalize v1.alloc (.cells #[.int .i64 A.sig, .slice at1 A.tr.length at1c, .slice at2 A.pts.length at2c, .int .i64 A.app, at4, .int .u16 (A.hold : Int)] 30) = v2 at *
    have a3 := heap_alloc_new v2 (.cells #[.int .i64 B.sig, .slice bt1 B.tr.length bt1c, .slice bt2 B.pts.length bt2c, .int .i64 B.app, bt4, .int .u16 (B.hold : Int)] 30)
    have b3 := tb_alloc_below v2 (.cells #[.int .i64 B.sig, .slice bt1 B.tr.length bt1c, .slice bt2 B.pts.length bt2c, .int .i64 B.app, bt4, .int .u16 (B.hold : Int)] 30)
    generalize v2.alloc (.cells #[.int .i64 B.sig, .slice bt1 B.tr.length bt1c, .slice bt2 B.pts.length bt2c, .int .i64 B.app, bt4, .int .u16 (B.hold : Int)] 30) = v3 at *
    subst hw1
    rw [z1] at a2 z2; rw [z2] at a3
    exact ⟨tb_kept (tb_kept a1 b2) b3, tb_kept a2 b3, a3, b1.trans ((b2.trans (b3.mono (by omega))).mono (by omega))⟩
  have HW1 := Lib.hid hw1
  obtain ⟨tb, htb⟩ : ∃ b, b = w.heap.size := ⟨_, rfl⟩
  obtain ⟨ab, hab⟩ : ∃ b, b = w.heap.size + 1 := ⟨_, rfl⟩
  obtain ⟨bb, hbb⟩ : ∃ b, b = w.heap.size + 2 := ⟨_, rfl⟩
  have HNUM : Hid (w.heap.size = tb ∧ w.heap.size + 1 = ab ∧ w.heap.size + 2 = bb) := ⟨htb.symm, hab.symm, hbb.symm⟩
  rw [← hbb, ← hab, ← htb] at P1
  obtain ⟨F, hF⟩ : ∃ F, F = rmustB T.pts A B := ⟨_, rfl⟩
  rw [← hF]
  have HF : Hid (F = ((A.sig == B.sig) || (A.pts.any (lieB T.pts B.tr) || (B.pts.any (lieB T.pts A.tr) || ((A.tr.any fun x => hasI B.tr x) || (A.pts.any fun p => B.pts.any fun q => oppB p q)))))) := hF
  clear htb hab hbb hF hw1 hP hA1 hA2 hB1 hB2
  go_enter Tryz.func39, Tryz.ntmps39
  go_upto_region 1 with fail
  rw [← HW1.out, HNUM.out.2.2, HNUM.out.2.1, HNUM.out.1]
  clear HW1 HNUM
  have t0 := cell_row (j := 0) P1.out.t rfl; have t1 := cell_row (j := 1) P1.out.t rfl; have t2 := cell_row (j := 2) P1.out.t rfl; have t3 := cell_row (j := 3) P1.out.t rfl
  have a0 := cell_row (j := 0) P1.out.a rfl; have a1 := cell_row (j := 1) P1.out.a rfl; have a2 := cell_row (j := 2) P1.out.a rfl
  have b0 := cell_row (j := 0) P1.out.b rfl; have b1 := cell_row (j := 1) P1.out.b rfl; have b2 := cell_row (j := 2) P1.out.b rfl
  have lt := heap_lt P1.out.t; have la := heap_lt P1.out.a; have lb := heap_lt P1.out.b
  cases ts : (A.sig == B.sig)
  case true =>
    have HX : Hid (F = true) := by show _ = _; rw [HF.out, ts]; rfl
    go_wp2_with fail
    go_ret
    exact ⟨congrArg (fun x => Ending.returned (.bool x)) HX.out.symm, P1.out.bel⟩
  case false =>
  rw [ts, Bool.false_or] at HF
  have HL1 := Lib.hid (fun W (hW : Below w.heap.size w W) => lies_any _ _ _ T A.pts B.tr W (HTT.out.below hW) (HA2.out.below hW) (HB1.out.below hW))
  have HL2 := Lib.hid (fun W (hW : Below w.heap.size w W) => lies_any _ _ _ T B.pts A.tr W (HTT.out.below hW) (HB2.out.below hW) (HA1.out.below hW))
  generalize hx1 : A.pts.any (lieB T.pts B.tr) = x1 at *
  generalize hx2 : B.pts.any (lieB T.pts A.tr) = x2 at *
  clear hx1 hx2
  go_wp2_with fail
  refine (HL1.out _ P1.out.bel).mono ?_
  rintro e w2 ⟨rfl, hb⟩
  have P2 := Lib.hid (P1.out.below hb)
  clear hb
  clear t0 t1 t2 t3 a0 a1 a2 b0 b1 b2 lt la lb
  cases x1
  case true =>
    have HX : Hid (F = true) := HF.out
    go_wp2_with fail
    go_ret
    exact ⟨congrArg (fun x => Ending.returned (.bool x)) HX.out.symm, P2.out.bel⟩
  case false =>
  rw [Bool.false_or] at HF
  have t0 := cell_row (j := 0) P2.out.t rfl; have t1 := cell_row (j := 1) P2.out.t rfl; have t2 := cell_row (j := 2) P2.out.t rfl; have t3 := cell_row (j := 3) P2.out.t rfl
  have a0 := cell_row (j := 0) P2.out.a rfl; have a1 := cell_row (j := 1) P2.out.a rfl; have a2 := cell_row (j := 2) P2.out.a rfl
  have b0 := cell_row (j := 0) P2.out.b rfl; have b1 := cell_row (j := 1) P2.out.b rfl; have b2 := cell_row (j := 2) P2.out.b rfl
  have lt := heap_lt P2.out.t; have la := heap_lt P2.out.a; have lb := heap_lt P2.out.b
  go_wp2_with fail
  refine (HL2.out _ P2.out.bel).mono ?_
  rintro e w3 ⟨rfl, hb⟩
  have P3 := Lib.hid (P2.out.below hb)
  clear hb P2 P1 HL1 HL2
  clear t0 t1 t2 t3 a0 a1 a2 b0 b1 b2 lt la lb
  cases x2
  case true =>
    have HX : Hid (F = true) := HF.out
    go_wp2_with fail
    go_ret
    exact ⟨congrArg (fun x => Ending.returned (.bool x)) HX.out.symm, P3.out.bel⟩
  case false =>
  rw [Bool.false_or] at HF
  go_wp2_with fail
  go_loopw [7] (fun i wr => ∃ k : Nat, k ≤ A.tr.length ∧ i = .int .i64 k ∧ (∀ j, j < k → hasI B.tr (A.tr.getD j 0) = false) ∧ MW w wr tb ab bb #[.int .i64 T.tracks, vp, .int .i64 T.sigs, vr] #[.int .i64 A.sig, .slice at1 A.tr.length at1c, .slice at2 A.pts.length at2c, .int .i64 A.app, at4, .int .u16 (A.hold : Int)] #[.int .i64 B.sig, .slice bt1 B.tr.length bt1c, .slice bt2 B.pts.length bt2c, .int .i64 B.app, bt4, .int .u16 (B.hold : Int)]) (fun i _ => A.tr.length - (intOf i).toNat)
  case atStart => exact ⟨0, Nat.zero_le _, rfl, fun j hj => absurd hj (by omega), P3.out⟩
  case round =>
    clear P3
    obtain ⟨k, hk, rfl, hno, hp⟩ := hrel
    have NO := Lib.hid hno; have P4 := Lib.hid hp
    clear hno hp
    have a1 := cell_row (j := 1) P4.out.a rfl; have b1 := cell_row (j := 1) P4.out.b rfl
    have la := heap_lt P4.out.a; have lb := heap_lt P4.out.b
    by_cases hlt : k < A.tr.length
    case pos =>
      obtain ⟨b, off, rfl, hb, x0⟩ := (HA1.out.below P4.out.bel).cell hlt
      have HC := Lib.hid (rhas_q _ _ (A.tr.getD k 0) wr (HB1.out.below P4.out.bel))
      have HLT := Lib.hid hlt
      go_upto_region 6 with fail
      cases hh : hasI B.tr (A.tr.getD k 0)
      case true =>
        have HX : Hid (F = true) := by show _ = _; rw [HF.out, any_getD (p := fun x => hasI B.tr x) hlt hh]; rfl
        rw [hh] at HC
        generalize A.tr.getD k 0 = y at *
        clear hh
        go_quiet ((go_at_call 41; (with_reducible exact HC.out _)))
        have P5 := Lib.hid (P4.out.below (MW_drewN _ nq))
        generalize wr.drewN nq = w5 at *
        clear a1 b1 la lb x0
        go_wp2_with fail
        go_ret
        exact ⟨congrArg (fun x => Ending.returned (.bool x)) HX.out.symm, P5.out.bel⟩
      case false =>
        rw [hh] at HC
        have HH : Hid (∀ j, j < k + 1 → hasI B.tr (A.tr.getD j 0) = false) := fun j hj => by
          by_cases e : j < k
          · exact NO.out j e
          · obtain rfl : j = k := by omega
            exact hh
        generalize A.tr.getD k 0 = y at *
        clear hh
        go_quiet ((go_at_call 41; (with_reducible exact HC.out _)))
        have P5 := Lib.hid (P4.out.below (MW_drewN _ nq))
        generalize wr.drewN nq = w5 at *
        clear a1 b1 la lb x0
        go_wp2_with fail
        go_roundw
        case rel => exact ⟨k + 1, by omega, by go_num, HH.out, P5.out⟩
        case measure => simp [intOf]; omega
    case neg =>
    obtain rfl : k = A.tr.length := by omega
    rw [any_no (p := fun x => hasI B.tr x) NO.out, Bool.false_or] at HF
    go_wp2_with fail
    clear a1 b1 la lb NO
    go_loopw [8, 9] (fun i _j wr => ∃ k : Nat, k ≤ A.pts.length ∧ i = .int .i64 k ∧ (∀ j, j < k → (B.pts.any fun q => oppB (A.pts.getD j (0, false)) q) = false) ∧ MW w wr tb ab bb #[.int .i64 T.tracks, vp, .int .i64 T.sigs, vr] #[.int .i64 A.sig, .slice at1 A.tr.length at1c, .slice at2 A.pts.length at2c, .int .i64 A.app, at4, .int .u16 (A.hold : Int)] #[.int .i64 B.sig, .slice bt1 B.tr.length bt1c, .slice bt2 B.pts.length bt2c, .int .i64 B.app, bt4, .int .u16 (B.hold : Int)]) (fun i _ _ => A.pts.length - (intOf i).toNat)
    case atStart => exact ⟨0, Nat.zero_le _, rfl, fun j hj => absurd hj (by omega), P4.out⟩
    case round =>
      clear P4
      obtain ⟨k, hk, rfl, hno, hp⟩ := hrel
      have NO := Lib.hid hno; have P4 := Lib.hid hp
      clear hno hp
      have a2 := cell_row (j := 2) P4.out.a rfl
      have la := heap_lt P4.out.a
      by_cases hlt : k < A.pts.length
      case pos =>
        have HLT := Lib.hid hlt
        go_wp2_with fail
        clear a2 la
        go_loopw [9] (fun i wr => ∃ n : Nat, n ≤ B.pts.length ∧ i = .int .i64 n ∧ (∀ j, j < n → oppB (A.pts.getD k (0, false)) (B.pts.getD j (0, false)) = false) ∧ MW w wr tb ab bb #[.int .i64 T.tracks, vp, .int .i64 T.sigs, vr] #[.int .i64 A.sig, .slice at1 A.tr.length at1c, .slice at2 A.pts.length at2c, .int .i64 A.app, at4, .int .u16 (A.hold : Int)] #[.int .i64 B.sig, .slice bt1 B.tr.length bt1c, .slice bt2 B.pts.length bt2c, .int .i64 B.app, bt4, .int .u16 (B.hold : Int)]) (fun i _ => B.pts.length - (intOf i).toNat)
        case atStart => exact ⟨0, Nat.zero_le _, rfl, fun j hj => absurd hj (by omega), P4.out⟩
        case round =>
          clear P4
          obtain ⟨n, hn, rfl, hno, hp⟩ := hrel
          have NO2 := Lib.hid hno; have P5 := Lib.hid hp
          clear hno hp
          have a2 := cell_row (j := 2) P5.out.a rfl; have b2 := cell_row (j := 2) P5.out.b rfl
          have la := heap_lt P5.out.a; have lb := heap_lt P5.out.b
          by_cases hln : n < B.pts.length
          case pos =>
            obtain ⟨pb, po, rfl, hpb, x0, x1⟩ := (HA2.out.below P5.out.bel).cell HLT.out
            obtain ⟨qb, qo, rfl, hqb, y0, y1⟩ := (HB2.out.below P5.out.bel).cell hln
            have HYY : Hid (oppB (A.pts.getD k (0, false)) (B.pts.getD n (0, false)) = true → F = true) := fun h => HF.out.trans (any_getD (p := fun p => B.pts.any fun q => oppB p q) HLT.out (any_getD (p := fun q => oppB (A.pts.getD k (0, false)) q) hln h))
            have HNN : Hid (oppB (A.pts.getD k (0, false)) (B.pts.getD n (0, false)) = false → ∀ j, j < n + 1 → oppB (A.pts.getD k (0, false)) (B.pts.getD j (0, false)) = false) := fun h j hj => by
              by_cases e : j < n
              · exact NO2.out j e
              · obtain rfl : j = n := by omega
                exact h
            have HD : Hid (oppB (A.pts.getD k (0, false)) (B.pts.getD n (0, false)) = (((A.pts.getD k (0, false)).1 == (B.pts.getD n (0, false)).1) && ((A.pts.getD k (0, false)).2 != (B.pts.getD n (0, false)).2))) := rfl
            generalize oppB (A.pts.getD k (0, false)) (B.pts.getD n (0, false)) = r at *
            have x0' := x0; have x1' := x1
            generalize (A.pts.getD k (0, false)).1 = p1 at x0 HD
            generalize (A.pts.getD k (0, false)).2 = p2 at x1 HD
            generalize (B.pts.getD n (0, false)).1 = q1 at y0 HD
            generalize (B.pts.getD n (0, false)).2 = q2 at y1 HD
            clear x0' x1'
            go_upto_region 14 with fail
            cases te : (p1 == q1)
            case false =>
              have HR : Hid (r = false) := by show _ = _; rw [HD.out, te]; rfl
              have HN2 := Lib.hid (HNN.out HR.out)
              go_quiet (fail)
              have P6 := Lib.hid (P5.out.below (MW_drewN _ nq))
              generalize wr.drewN nq = w5 at *
              clear a2 b2 la lb x0 x1 y0 y1 hpb hqb
              go_wp2_with fail
              go_roundw
              case rel => exact ⟨n + 1, by omega, by go_num, HN2.out, P6.out⟩
              case measure => simp [intOf]; omega
            case true =>
              rw [te, Bool.true_and] at HD
              cases p2
              case false =>
                cases q2
                case false =>
                  have HR : Hid (r = false) := HD.out
                  have HN2 := Lib.hid (HNN.out HR.out)
                  go_quiet (fail)
                  have P6 := Lib.hid (P5.out.below (MW_drewN _ nq))
                  generalize wr.drewN nq = w5 at *
                  clear a2 b2 la lb x0 x1 y0 y1 hpb hqb
                  go_wp2_with fail
                  go_roundw
                  case rel => exact ⟨n + 1, by omega, by go_num, HN2.out, P6.out⟩
                  case measure => simp [intOf]; omega
                case true =>
                  have HX : Hid (F = true) := HYY.out HD.out
                  go_quiet (fail)
                  have P6 := Lib.hid (P5.out.below (MW_drewN _ nq))
                  generalize wr.drewN nq = w5 at *
                  clear a2 b2 la lb x0 x1 y0 y1 hpb hqb
                  go_wp2_with fail
                  go_ret
                  exact ⟨congrArg (fun x => Ending.returned (.bool x)) HX.out.symm, P6.out.bel⟩
              case true =>
                cases q2
                case true =>
                  have HR : Hid (r = false) := HD.out
                  have HN2 := Lib.hid (HNN.out HR.out)
                  go_quiet (fail)
                  have P6 := Lib.hid (P5.out.below (MW_drewN _ nq))
                  generalize wr.drewN nq = w5 at *
                  clear a2 b2 la lb x0 x1 y0 y1 hpb hqb
                  go_wp2_with fail
                  go_roundw
                  case rel => exact ⟨n + 1, by omega, by go_num, HN2.out, P6.out⟩
                  case measure => simp [intOf]; omega
                case false =>
                  have HX : Hid (F = true) := HYY.out HD.out
                  go_quiet (fail)
                  have P6 := Lib.hid (P5.out.below (MW_drewN _ nq))
                  generalize wr.drewN nq = w5 at *
                  clear a2 b2 la lb x0 x1 y0 y1 hpb hqb
                  go_wp2_with fail
                  go_ret
                  exact ⟨congrArg (fun x => Ending.returned (.bool x)) HX.out.symm, P6.out.bel⟩
          case neg =>
          obtain rfl : n = B.pts.length := by omega
          have HNN : Hid (∀ j, j < k + 1 → (B.pts.any fun q => oppB (A.pts.getD j (0, false)) q) = false) := fun j hj => by
            by_cases e : j < k
            · exact NO.out j e
            · obtain rfl : j = k := by omega
              exact any_no NO2.out
          go_wp2_with fail
          clear a2 b2 la lb
          go_roundw
          case rel => exact ⟨k + 1, by have := HLT.out; omega, by go_num, HNN.out, P5.out⟩
          case measure => have := HLT.out; simp [intOf]; omega
      case neg =>
      obtain rfl : k = A.pts.length := by omega
      have HX : Hid (F = false) := by show _ = _; rw [HF.out]; exact any_no NO.out
      go_wp2_with fail
      go_ret
      exact ⟨congrArg (fun x => Ending.returned (.bool x)) HX.out.symm, P4.out.bel⟩
end Go.Proofs.YtpodedhnlicckaaGreatDoor
/- The document's table: Conflicts. -/
namespace Go.Proofs.YtpodedhnlicckaaGreatDoor
open Go.RowKit
set_option linter.unusedVariables false
set_option linter.unusedSimpArgs false
theorem infoIS : (Tryz.prog.info? 22).map (fun i => (i.zero, i.size, i.bytes)) = some (some (.slice none 0 0), 1, 24) := by kernel_rfl
def rowsV (V : Nat → Value) (n : Nat) : List Value := (List.range n).map V
theorem rowsV_snoc (V : Nat → Value) (n : Nat) (x : Value) : rowsV V n ++ [x] = rowsV (fun j => if j = n then x else V j) (n + 1) := by
  unfold rowsV
  rw [List.range_succ, List.map_append]
  congr 1
  · exact List.map_congr_left fun j hj => by
      have : j ≠ n := by have := List.mem_range.1 hj; omega
      rw [if_neg this]
  · simp
theorem rowsV_get {V : Nat → Value} {n i : Nat} (h : i < n) : (rowsV V n)[i]? = some (V i) := by
  unfold rowsV
  rw [List.getElem?_map, List.getElem?_range h]
  rfl
/-- A row that lies, off the block that holds the rows. -/
structure RI (w : World) (vo x : Value) (l : List Int) : Prop where
  at_ : IntsAt w x l
  off : ∀ b o k c, x = .slice (some ⟨b, o, none⟩) k c → vo.ownBlock ≠ some b ∧ b < w.heap.size
theorem RI.below {w w' : World} {vo x : Value} {l : List Int} (h : RI w vo x l) (hb : Below w.heap.size w w') : RI w' vo x l :=
  ⟨h.at_.below hb, fun b o k c e => ⟨(h.off b o k c e).1, Nat.lt_of_lt_of_le (h.off b o k c e).2 hb.size⟩⟩
def RConfP (T : Tab) (m : Nat) (w : World) (e : Ending) (w' : World) : Prop := (∃ v b V, e = .returned v ∧ SlAt w' v b 22 m V ∧ ∀ j, j < m → IntsAt w' (V j) (confL T j m)) ∧ Below w.heap.size w w'
set_option maxRecDepth 100000 in
set_option maxHeartbeats 4000000 in
theorem rconf_any (v : Value) (T : Tab) (w : World) (hT : TabAt w v T) (hn : T.rts.length ≤ 1000) (h1 : 0 < T.rts.length) :
    Calls Tryz.prog 16 #[v] w (RConfP T T.rts.length w) := by
  have HT := Lib.hid hT
  obtain ⟨⟨vp, vr, rfl, hP, hr⟩, _, _⟩ := hT
  obtain ⟨a, c, C0, rfl, hlc, hcm, _⟩ := hr.at_
  obtain ⟨rb, roff, _, rfl, hrb, _, _⟩ := hr.cells (i := 0) h1
  have HR := Lib.hid hr
  obtain ⟨i0, hi, hz0, hz1, hz2⟩ := tb_info infoI
  have HIn := Lib.hid hi; have HZ0 := Lib.hid hz0; have HZ1 := Lib.hid hz1; have HZ2 := Lib.hid hz2
  obtain ⟨iS, hi', hz0', hz1', hz2'⟩ := tb_info infoIS
  have SIn := Lib.hid hi'; have SZ0 := Lib.hid hz0'; have SZ1 := Lib.hid hz1'; have SZ2 := Lib.hid hz2'
  obtain ⟨m, hm⟩ : ∃ m, m = T.rts.length := ⟨_, rfl⟩
  rw [← hm] at hn hlc HT HR ⊢
  have HLEN := Lib.hid hm
  obtain ⟨w1, hw1⟩ : ∃ w1, w1 = w.alloc (.cells #[.int .i64 T.tracks, vp, .int .i64 T.sigs, .slice (some ⟨rb, roff, none⟩) m c] 25) := ⟨_, rfl⟩
  have B1 : Hid (Below w.heap.size w w1) := by rw [hw1]; exact tb_alloc_below _ _
  have K1 : Hid (w1.heap[w.heap.size]? = some (.cells #[.int .i64 T.tracks, vp, .int .i64 T.sigs, .slice (some ⟨rb, roff, none⟩) m c] 25 (0, 0))) := by rw [hw1]; exact heap_alloc_new _ _
  have HW1 := Lib.hid hw1
  have HRB := Lib.hid hrb
  have HN := Lib.hid hn
  unfold maxLen at hcm
  clear hi hz0 hz1 hz2 hi' hz0' hz1' hz2' hm hw1 hP hr hrb h1
  go_enter Tryz.func16, Tryz.ntmps16
  go_upto_region 1 with fail
  rw [← HW1.out]
  obtain ⟨tb, htb⟩ : ∃ b, b = w.heap.size := ⟨_, rfl⟩
  rw [← htb] at K1 ⊢
  clear htb HW1
  go_wp2_with fail
  go_loopw [3, 4, 5, 6] (fun o i _l _k wr => ∃ (k : Nat) (vo : Value) (V : Nat → Value), k ≤ m ∧ vo = o ∧ i = .int .i64 k ∧ wr.ownsRow w1.heap.size 22 1 vo k (rowsV V k) ∧ (∀ j, j < k → RI wr vo (V j) (confL T j m)) ∧ Below w1.heap.size w1 wr) (fun _ i _ _ _ => m - (intOf i).toNat)
  case atStart => exact ⟨0, .slice none 0 0, fun _ => undef, Nat.zero_le _, rfl, rfl, ⟨rfl, .inl ⟨rfl, rfl⟩⟩, fun j hj => absurd hj (by omega), Below.refl _ _⟩
  case round =>
    obtain ⟨i, vo, V, hi, rfl, rfl, hown, hin, hb⟩ := hrel
    have O3 := Lib.hid hown; have I3 := Lib.hid hin; have B3 := Lib.hid hb
    have BW3 : Hid (Below w.heap.size w wr) := B1.out.trans (hb.mono B1.out.size)
    clear hown hin hb
    have c3 := cell_row (j := 3) (tb_kept K1.out B3.out) rfl
    have l1 := heap_lt (tb_kept K1.out B3.out)
    by_cases hlt : i < m
    case pos =>
      go_wp2_with fail
      clear c3 l1
      obtain ⟨w4, hw4⟩ : ∃ x : World, x = wr := ⟨_, rfl⟩
      rw [← hw4] at O3 I3 B3 BW3
      have HLT := Lib.hid hlt
      have HO4 : Hid (∀ g, vo.ownBlock = some g → g < w4.heap.size) := fun g hg => (O3.out.lt g hg).2
      go_loopw [5, 6] (fun x k wr => ∃ (kk : Nat) (v : Value), kk ≤ m ∧ v = x ∧ k = .int .i64 kk ∧ wr.ownsRow w4.heap.size 3 1 v (confL T i kk).length (intsV (confL T i kk)) ∧ Below w4.heap.size w4 wr) (fun _ k _ => m - (intOf k).toNat)
      case atStart => exact ⟨0, .slice none 0 0, Nat.zero_le _, rfl, rfl, ⟨rfl, .inl ⟨rfl, rfl⟩⟩, by rw [hw4]; exact Below.refl _ _⟩
      case round =>
        clear hw4
        obtain ⟨k, v, hk, rfl, rfl, hown, hb⟩ := hrel
        have O5 := Lib.hid hown; have B45 := Lib.hid hb
        have B5 : Hid (Below w1.heap.size w1 wr) := B3.out.trans (hb.mono B3.out.size)
        have BW5 : Hid (Below w.heap.size w wr) := BW3.out.trans (hb.mono BW3.out.size)
        clear hown hb
        have K5 : Hid (wr.heap[tb]? = some (.cells #[.int .i64 T.tracks, vp, .int .i64 T.sigs, .slice (some ⟨rb, roff, none⟩) m c] 25 (0, 0))) := tb_kept K1.out B5.out
        have c3 := cell_row (j := 3) K5.out rfl
        have l1 := heap_lt K5.out
        by_cases hltk : k < m
        case pos =>
          have HCL : Hid ((confL T i k).length ≤ k) := confL_len T i k
          go_upto_region 9 with fail
          by_cases hik : k = i
          case pos =>
            have HCK : Hid (confL T i (k + 1) = confL T i k) := by show _ = _; rw [confL, hik]; simp
            have t1 : ((k : Int) != (i : Int)) = false := by simp [hik]
            clear hik
            go_quiet (fail)
            have O6 : Hid ((wr.drewN nq).ownsRow w4.heap.size 3 1 v (confL T i k).length (intsV (confL T i k))) := tb_own O5.out (Only.of_below (fun _ => False) (MW_drewN _ nq)) (fun _ _ h => h)
            have B6 : Hid (Below w4.heap.size w4 (wr.drewN nq)) := ⟨B45.out.os, B45.out.tape, B45.out.output, B45.out.size, B45.out.block⟩
            generalize wr.drewN nq = w6 at *
            clear c3 l1
            go_wp2_with fail
            go_roundw
            case rel => exact ⟨k + 1, v, by omega, rfl, by go_num, by rw [HCK.out]; exact O6.out, B6.out⟩
            case measure => simp [intOf]; omega
          case neg =>
            have t1 : ((k : Int) != (i : Int)) = true := by simp; omega
            have HCK : Hid (confL T i (k + 1) = if mustB T.pts (T.rts.getD i rt0) (T.rts.getD k rt0) then confL T i k ++ [(k : Int)] else confL T i k) := by
              show _ = _
              rw [confL]
              have : (i != k) = true := by simp; omega
              rw [this, Bool.true_and]
            obtain ⟨rb', roff', C', e, hrb, hrc, hrr⟩ := HR.out.cells (i := i) (by rw [← HLEN.out]; omega)
            cases e
            have x0 := (BW5.out.cell hrb).trans (hrc 0 (by omega)); have x1 := (BW5.out.cell hrb).trans (hrc 1 (by omega)); have x2 := (BW5.out.cell hrb).trans (hrc 2 (by omega)); have x3 := (BW5.out.cell hrb).trans (hrc 3 (by omega)); have x4 := (BW5.out.cell hrb).trans (hrc 4 (by omega)); have x5 := (BW5.out.cell hrb).trans (hrc 5 (by omega))
            rw [Nat.add_zero] at x0
            have hV := hrr.rval
            obtain ⟨A, hA⟩ : ∃ A, A = T.rts.getD i rt0 := ⟨_, rfl⟩
            rw [← hA] at hrr hV HCK
            obtain ⟨⟨ta, tc, ht, _⟩, _⟩ := hrr.tr
            obtain ⟨⟨pa, pc, hp, _⟩, _⟩ := hrr.pts
            obtain ⟨⟨ca, cc, hcn, _⟩, _⟩ := hrr.con
            rw [hrr.sig] at x0 hV; rw [ht] at x1 hV; rw [hp] at x2 hV; rw [hrr.app] at x3 hV; rw [hcn] at x4 hV; rw [hrr.hold] at x5 hV
            have HVA := Lib.hid (hV.below BW5.out)
            clear hA hrr hrc hV ht hp hcn
            have hrb5 : rb < wr.heap.size := Nat.lt_of_lt_of_le hrb BW5.out.size
            clear hrb
            obtain ⟨rb', roff', C', e, hrb, hrc, hrr⟩ := HR.out.cells (i := k) (by rw [← HLEN.out]; omega)
            cases e
            have y0 := (BW5.out.cell hrb).trans (hrc 0 (by omega)); have y1 := (BW5.out.cell hrb).trans (hrc 1 (by omega)); have y2 := (BW5.out.cell hrb).trans (hrc 2 (by omega)); have y3 := (BW5.out.cell hrb).trans (hrc 3 (by omega)); have y4 := (BW5.out.cell hrb).trans (hrc 4 (by omega)); have y5 := (BW5.out.cell hrb).trans (hrc 5 (by omega))
            rw [Nat.add_zero] at y0
            have hV := hrr.rval
            obtain ⟨D, hA⟩ : ∃ A, A = T.rts.getD k rt0 := ⟨_, rfl⟩
            rw [← hA] at hrr hV HCK
            obtain ⟨⟨ua, uc, ht, _⟩, _⟩ := hrr.tr
            obtain ⟨⟨qa, qc, hp, _⟩, _⟩ := hrr.pts
            obtain ⟨⟨da, dc, hcn, _⟩, _⟩ := hrr.con
            rw [hrr.sig] at y0 hV; rw [ht] at y1 hV; rw [hp] at y2 hV; rw [hrr.app] at y3 hV; rw [hcn] at y4 hV; rw [hrr.hold] at y5 hV
            have HVD := Lib.hid (hV.below BW5.out)
            clear hA hrr hrc hV ht hp hcn
            clear hrb
            have c0 := cell_row (j := 0) K5.out rfl; have c1 := cell_row (j := 1) K5.out rfl; have c2 := cell_row (j := 2) K5.out rfl
            obtain ⟨r, hr⟩ : ∃ r, r = mustB T.pts A D := ⟨_, rfl⟩
            rw [← hr] at HCK
            have HR5 := Lib.hid hr
            clear hr
            obtain ⟨U, fU, hUn, hU1, hU2⟩ := class_of (fun V => Below wr.heap.size wr V) (W := wr.drew) ⟨rfl, rfl, rfl, Nat.le_refl _, fun _ _ => rfl⟩
            have HU1 := Lib.hid hU1; have HU2 := Lib.hid hU2
            clear hU1 hU2
            have hfm : (Tryz.prog).follows .mixedOrders = true := by kernel_rfl
            obtain ⟨q, hd1⟩ : ∃ q : Nat, 1 ≤ q := ⟨1, Nat.le_refl _⟩
            have z0 := fun uu => ((HU1.out uu).cell l1).trans c0
            have z1 := fun uu => ((HU1.out uu).cell l1).trans c1
            have z2 := fun uu => ((HU1.out uu).cell l1).trans c2
            have z3 := fun uu => ((HU1.out uu).cell l1).trans c3
            have xx0 := fun uu => ((HU1.out uu).cell hrb5).trans x0
            have yy0 := fun uu => ((HU1.out uu).cell hrb5).trans y0
            have xx1 := fun uu => ((HU1.out uu).cell hrb5).trans x1
            have yy1 := fun uu => ((HU1.out uu).cell hrb5).trans y1
            have xx2 := fun uu => ((HU1.out uu).cell hrb5).trans x2
            have yy2 := fun uu => ((HU1.out uu).cell hrb5).trans y2
            have xx3 := fun uu => ((HU1.out uu).cell hrb5).trans x3
            have yy3 := fun uu => ((HU1.out uu).cell hrb5).trans y3
            have xx4 := fun uu => ((HU1.out uu).cell hrb5).trans x4
            have yy4 := fun uu => ((HU1.out uu).cell hrb5).trans y4
            have xx5 := fun uu => ((HU1.out uu).cell hrb5).trans x5
            have yy5 := fun uu => ((HU1.out uu).cell hrb5).trans y5
            have hMU : ∀ uu, Calls Tryz.prog 39 #[.agg #[.int .i64 T.tracks, vp, .int .i64 T.sigs, .slice (some ⟨rb, roff, none⟩) m c], .agg #[.int .i64 A.sig, .slice ta A.tr.length tc, .slice pa A.pts.length pc, .int .i64 A.app, .slice ca A.con.length cc, .int .u16 (A.hold : Int)], .agg #[.int .i64 D.sig, .slice ua D.tr.length uc, .slice qa D.pts.length qc, .int .i64 D.app, .slice da D.con.length dc, .int .u16 (D.hold : Int)]] (fU uu) fun e w' => e = .returned (.bool r) ∧ Below (fU uu).heap.size (fU uu) w' := fun uu => by
              rw [HR5.out]
              exact rmust_any _ _ _ T A D (fU uu) (HT.out.below (BW5.out.trans ((HU1.out uu).mono BW5.out.size))) (HVA.out.below (HU1.out uu)) (HVD.out.below (HU1.out uu))
            have HMU := Lib.hid hMU
            clear hMU
            have h0_HRC : ∀ uu, Calls Tryz.prog 39 #[.agg #[.int .i64 T.tracks, vp, .int .i64 T.sigs, .slice (some ⟨rb, roff, none⟩) m c], .agg #[.int .i64 A.sig, .slice ta A.tr.length tc, .slice pa A.pts.length pc, .int .i64 A.app, .slice ca A.con.length cc, .int .u16 (A.hold : Int)], .agg #[.int .i64 D.sig, .slice ua D.tr.length uc, .slice qa D.pts.length qc, .int .i64 D.app, .slice da D.con.length dc, .int .u16 (D.hold : Int)]] (fU uu) fun e w' => e = .returned (.bool r) ∧ Below (fU uu).heap.size (fU uu) w' := fun uu => HMU.out uu
            have HRC : Hid (∀ uu, CallsIn Fence.wide (q - 1) Tryz.prog 39 #[.agg #[.int .i64 T.tracks, vp, .int .i64 T.sigs, .slice (some ⟨rb, roff, none⟩) m c], .agg #[.int .i64 A.sig, .slice ta A.tr.length tc, .slice pa A.pts.length pc, .int .i64 A.app, .slice ca A.con.length cc, .int .u16 (A.hold : Int)], .agg #[.int .i64 D.sig, .slice ua D.tr.length uc, .slice qa D.pts.length qc, .int .i64 D.app, .slice da D.con.length dc, .int .u16 (D.hold : Int)]] (fU uu) fun e w' => e = .returned (.bool r) ∧ ∃ uu', w' = fU uu') := fun uu => (callsIn_wide.2 (h0_HRC uu)).mono (fun e w' ⟨he, hb⟩ => ⟨he, HU2.out _ ((HU1.out uu).trans (hb.mono (HU1.out uu).size))⟩)
            have hf_HRC : Fence.wide.fn 39 := trivial
            clear h0_HRC
            clear c0 c1 c2 c3 x0 x1 x2 x3 x4 x5 y0 y1 y2 y3 y4 y5
            refine (wpIn_wide (n := q)).1 ?_
            refine wpIn_region_cls fU (by kernel_rfl) hfm (by kernel_rfl) (HU2.out _ ⟨rfl, rfl, rfl, Nat.le_refl _, fun _ _ => rfl⟩) ?_
            repeat (gi_big_quiet_step ((gi_at_call 39; (with_reducible exact HRC.out _))))
            refine wpQuietIn_nil ?_
            rintro w6 ⟨uu, rfl⟩
            have O6 : Hid ((fU uu).ownsRow w4.heap.size 3 1 v (confL T i k).length (intsV (confL T i k))) := tb_own O5.out (Only.of_below (fun _ => False) (HU1.out uu)) (fun _ _ h => h)
            have B6 : Hid (Below w4.heap.size w4 (fU uu)) := B45.out.trans ((HU1.out uu).mono B45.out.size)
            generalize fU uu = w6 at *
            clear HU1 HU2 HRC HMU z0 z1 z2 z3 xx0 xx1 xx2 xx3 xx4 xx5 yy0 yy1 yy2 yy3 yy4 yy5 hrb5 l1
            cases r
            case false =>
              go_wp2_with fail
              go_roundw
              case rel => exact ⟨k + 1, v, by omega, rfl, by go_num, by rw [HCK.out]; exact O6.out, B6.out⟩
              case measure => simp [intOf]; omega
            case true =>
              have HC1 : Hid (confL T i (k + 1) = confL T i k ++ [(k : Int)]) := HCK.out
              have HO := Lib.hid (O6.out.alloc (.cells #[.int .i64 (k : Int)] 3))
              have HZ : Hid (w4.heap.size ≤ w6.heap.size) := B6.out.size
              have HLT2 : Hid ((confL T i k).length ≤ 1000000) := by have := HCL.out; have := HN.out; show _ ≤ _; omega
              generalize hcl : confL T i k = cl at *
              go_wp2_with (at_builtin; refine wpList_append_own_at _ rfl _ _ 22 rfl w4.heap.size 3 i0 (.int .i64 0) 1 8 Tryz.underlying22 HIn.out HZ0.out HZ1.out HZ2.out rfl (by decide) v cl.length _ rfl HO.out ⟨w6.heap.size, 0, none⟩ 1 1 [.int .i64 (k : Int)] rfl rfl (cell_one_new _ _ _) (fun u hu => by simp at hu; subst hu; rfl) (by have := HLT2.out; unfold maxLen; omega) (by have := HLT2.out; omega) (by have := HZ.out; simp; omega) ?_)
              intro v8 w8 ho8 hg8 _ _
              have B8 : Hid (Below w4.heap.size w4 w8) := (B6.out.alloc B6.out.size _).grown hg8 (by simp; have := HZ.out; omega) (fun g hg => (O6.out.lt g hg).1)
              rw [← intsV_snoc, ← HC1.out, show cl.length + 1 = (confL T i (k + 1)).length by rw [HC1.out]; simp] at ho8
              have O8 := Lib.hid ho8
              clear ho8 hg8 HO
              go_wp2_with fail
              go_roundw
              case rel => exact ⟨k + 1, v8, by omega, rfl, by go_num, O8.out, B8.out⟩
              case measure => simp [intOf]; omega
        case neg =>
        obtain rfl : k = m := by omega
        have HI5 : Hid (IntsAt wr v (confL T i k)) := own_ints O5.out (fun x hx => by
          have := confL_ok T i k (by have := HN.out; omega) ((confL T i k).getD x 0) (by rw [List.getD_eq_getElem?_getD, List.getElem?_eq_getElem hx]; exact List.getElem_mem hx)
          have := HN.out
          unfold i64ok; omega)
        obtain ⟨⟨va, vc, hvv, _⟩, _⟩ := id HI5.out
        subst hvv
        have HOV : Hid (∀ b o kk cc, (Value.slice va (confL T i k).length vc) = .slice (some ⟨b, o, none⟩) kk cc → w4.heap.size ≤ b ∧ b < wr.heap.size) := fun b o kk cc e => by
          cases e
          rcases O5.out.2 with ⟨h, _⟩ | ⟨g, cap, cur, h, hg, hh, _⟩
          · cases h
          · cases h; exact ⟨hg, heap_lt hh⟩
        have OO5 : Hid (wr.ownsRow w1.heap.size 22 1 vo i (rowsV V i)) := tb_own O3.out (Only.of_below (fun _ => False) B45.out) (fun _ _ h => h)
        have HO := Lib.hid (OO5.out.alloc (.cells #[.slice va (confL T i k).length vc] 22))
        have HZ : Hid (w1.heap.size ≤ wr.heap.size) := B5.out.size
        have HLI : Hid (i ≤ 1000) := by have := HN.out; have := HLT.out; show _ ≤ _; omega
        go_wp2_with (at_builtin; refine wpList_append_own_at _ rfl _ _ 34 rfl w1.heap.size 22 iS (.slice none 0 0) 1 24 Tryz.underlying34 SIn.out SZ0.out SZ1.out SZ2.out rfl (by decide) vo i _ rfl HO.out ⟨wr.heap.size, 0, none⟩ 1 1 [.slice va (confL T i k).length vc] rfl rfl (cell_one_new _ _ _) (fun u hu => by simp at hu; subst hu; rfl) (by have := HLI.out; unfold maxLen; omega) (by have := HLI.out; omega) (by have := HZ.out; simp; omega) ?_)
        intro v8 w8 ho8 hg8 _ hb8
        have B8 : Hid (Below w1.heap.size w1 w8) := (B5.out.alloc B5.out.size _).grown hg8 (by simp; have := HZ.out; omega) (fun g hg => (OO5.out.lt g hg).1)
        have L8 : Only (fun b => vo.ownBlock = some b) wr w8 := ((Only.refl _ wr).alloc _).trans (Only.grown hg8 (fun g hg => .inr hg))
        have hz8 : (wr.alloc (.cells #[.slice va (confL T i k).length vc] 22)).heap.size = wr.heap.size + 1 := Array.size_push _
        rw [rowsV_snoc] at ho8
        have O8 := Lib.hid ho8
        have I8 : Hid (∀ j, j < i + 1 → RI w8 v8 (if j = i then .slice va (confL T i k).length vc else V j) (confL T j k)) := fun j hj => by
          have key : ∀ x l, IntsAt wr x l → (∀ b o kk cc, x = .slice (some ⟨b, o, none⟩) kk cc → vo.ownBlock ≠ some b ∧ b < wr.heap.size) → RI w8 v8 x l := fun x l h1 h2 =>
            ⟨h1.only L8 (fun b o kk cc e hm => (h2 b o kk cc e).1 hm), fun b o kk cc e => by
              have := h2 b o kk cc e
              refine ⟨?_, Nat.lt_of_lt_of_le this.2 L8.size⟩
              rcases hb8 with h | h
              · rw [h]; exact this.1
              · rw [h]; try rw [hz8]
                intro e2; cases e2; omega⟩
          by_cases e : j = i
          · subst e
            rw [if_pos rfl]
            exact key _ _ HI5.out (fun b o kk cc e => ⟨fun h => by have := HO4.out _ h; have := (HOV.out b o kk cc e).1; omega, (HOV.out b o kk cc e).2⟩)
          · rw [if_neg e]
            have := (I3.out j (by omega)).below B45.out
            exact key _ _ this.at_ this.off
        clear ho8 hg8 hb8 L8 hz8 HO c3 l1
        go_wp2_with fail
        go_roundw
        case rel => exact ⟨i + 1, v8, _, by have := HLT.out; omega, rfl, by go_num, O8.out, I8.out, B8.out⟩
        case measure => have := HLT.out; simp [intOf]; omega
    case neg =>
    obtain rfl : i = m := by omega
    obtain ⟨b, hsl, _⟩ := SlAt.of_own (V := V) O3.out (fun j hj => rowsV_get hj)
    have HSL := Lib.hid hsl
    clear hsl
    go_wp2_with fail
    go_ret
    exact ⟨⟨vo, b, V, rfl, HSL.out, fun j hj => (I3.out j hj).at_⟩, BW3.out⟩
end Go.Proofs.YtpodedhnlicckaaGreatDoor
