/- The document's table: Has, once, lies. -/
import Derived.Test.YtlfcmedhadfheaaTabK
namespace Go.Proofs.Ytlfcmedhadfheaa
open Go.RowKit
set_option linter.unusedVariables false
set_option linter.unusedSimpArgs false
set_option maxHeartbeats 1000000 in
theorem rhas_any (v : Value) (l : List Int) (x : Int) (w : World) (h : IntsAt w v l) :
    Calls Try.prog 42 #[v, .int .i64 x] w fun e w' => e = .returned (.bool (hasI l x)) ∧ w' = w := by
  have hsz := h.size
  unfold maxLen at hsz
  obtain ⟨a, c, rfl, hlc, hcm, _⟩ := h.at_
  have H := Lib.hid h
  clear h
  obtain ⟨F, hF⟩ : ∃ F, F = hasI l x := ⟨_, rfl⟩
  rw [← hF]
  have HF := Lib.hid hF
  clear hF
  go_enter Try.func42, Try.ntmps42
  go_wp2_with fail
  go_loopw [5] (fun i wr => ∃ k : Nat, k ≤ l.length ∧ i = .int .i64 k ∧ (∀ j, j < k → l.getD j 0 ≠ x) ∧ wr = w) (fun i _ => l.length - (intOf i).toNat)
  case atStart => exact ⟨0, Nat.zero_le _, rfl, fun j hj => absurd hj (by omega), by first | trivial | rfl⟩
  case round =>
    obtain ⟨k, hk, rfl, hno, rfl⟩ := hrel
    have NO := Lib.hid hno
    clear hno
    by_cases hlt : k < l.length
    · obtain ⟨b, off, rfl, hb, x0⟩ := H.out.cell hlt
      by_cases hx : l.getD k 0 = x
      · have HT : Hid (F = true) := HF.out.trans (hasI_iff.2 ⟨k, hlt, hx⟩)
        have t : (l.getD k 0 == x) = true := by simpa using hx
        clear hx
        generalize l.getD k 0 = y at *
        go_wp2_with fail
        go_ret
        exact ⟨congrArg (fun x => Ending.returned (.bool x)) HT.out.symm, by first | trivial | rfl⟩
      · have HX := Lib.hid hx
        have t : (l.getD k 0 == x) = false := by simpa using hx
        clear hx
        generalize hy : l.getD k 0 = y at *
        have HY := Lib.hid hy
        clear hy
        go_wp2_with fail
        go_roundw
        case rel => exact ⟨k + 1, by omega, by go_num, fun j hj => (by
          by_cases e : j < k
          · exact NO.out j e
          · obtain rfl : j = k := by omega
            rw [HY.out]; exact HX.out), by first | trivial | rfl⟩
        case measure => simp [intOf]; omega
    · obtain rfl : k = l.length := by omega
      have HT : Hid (F = false) := HF.out.trans (hasI_no NO.out)
      go_wp2_with fail
      go_ret
      exact ⟨congrArg (fun x => Ending.returned (.bool x)) HT.out.symm, by first | trivial | rfl⟩
theorem rhas_q (v : Value) (l : List Int) (x : Int) (w : World) (h : IntsAt w v l) (n : Nat) :
    Calls Try.prog 42 #[v, .int .i64 x] (w.drewN n) fun e w' => e = .returned (.bool (hasI l x)) ∧ ∃ m, w' = w.drewN m :=
  Calls.quiet_of_same (rhas_any v l x _ (h.below ⟨rfl, rfl, rfl, Nat.le_refl _, fun _ _ => rfl⟩))
set_option maxHeartbeats 2000000 in
theorem once_any (v : Value) (l : List Int) (n : Int) (w : World) (h : IntsAt w v l) :
    Calls Try.prog 63 #[v, .int .i64 n] w fun e w' => e = .returned (.bool (withinI l n)) ∧ Below w.heap.size w w' := by
  have hsz := h.size
  unfold maxLen at hsz
  obtain ⟨a, c, rfl, hlc, hcm, _⟩ := h.at_
  unfold maxLen at hcm
  have H := Lib.hid h
  clear h
  obtain ⟨F, hF⟩ : ∃ F, F = withinI l n := ⟨_, rfl⟩
  rw [← hF]
  have HF := Lib.hid hF
  clear hF
  go_enter Try.func63, Try.ntmps63
  go_wp2_with fail
  go_loopw [5] (fun i wr => ∃ k : Nat, k ≤ l.length ∧ i = .int .i64 k ∧ (∀ j, j < k → 0 ≤ l.getD j 0 ∧ l.getD j 0 < n ∧ hasI (l.take j) (l.getD j 0) = false) ∧ Below w.heap.size w wr) (fun i _ => l.length - (intOf i).toNat)
  case atStart => exact ⟨0, Nat.zero_le _, rfl, fun j hj => absurd hj (by omega), Below.refl _ _⟩
  case round =>
    obtain ⟨k, hk, rfl, hno, hbel⟩ := hrel
    have NO := Lib.hid hno
    have B1 := Lib.hid hbel
    clear hno hbel
    by_cases hlt : k < l.length
    · obtain ⟨b, off, rfl, hb, x0⟩ := (H.out.below B1.out).cell hlt
      have HT := Lib.hid ((H.out.take hk).below B1.out)
      generalize hy : l.getD k 0 = y at *
      have HY := Lib.hid hy
      clear hy
      have HC := Lib.hid (fun n => rhas_q _ _ y wr HT.out n)
      go_upto_region 4 with fail
      by_cases t1 : y < 0
      · have t1' : decide (y < 0) = true := by simpa using t1
        have HH : Hid (¬ (0 ≤ y ∧ y < n ∧ hasI (l.take k) y = false)) := fun h => by have := h.1; omega
        have HX : Hid (F = false) := by
          show _ = _
          rw [HF.out]
          refine withinI_no hlt ?_
          rw [HY.out]
          exact HH.out
        go_quiet ((go_at_call 42; (with_reducible exact HC.out _)))
        have B2 : Hid (Below w.heap.size w (wr.drewN nq)) := ⟨B1.out.os, B1.out.tape, B1.out.output, B1.out.size, B1.out.block⟩
        generalize wr.drewN nq = w2 at *
        go_wp2_with fail
        go_ret
        exact ⟨congrArg (fun x => Ending.returned (.bool x)) HX.out.symm, B2.out⟩
      · have t1' : decide (y < 0) = false := by simpa using t1
        by_cases t2 : n ≤ y
        · have t2' : decide (n ≤ y) = true := by simpa using t2
          have HH : Hid (¬ (0 ≤ y ∧ y < n ∧ hasI (l.take k) y = false)) := fun h => by have := h.2.1; omega
          have HX : Hid (F = false) := by
            show _ = _
            rw [HF.out]
            refine withinI_no hlt ?_
            rw [HY.out]
            exact HH.out
          go_quiet ((go_at_call 42; (with_reducible exact HC.out _)))
          have B2 : Hid (Below w.heap.size w (wr.drewN nq)) := ⟨B1.out.os, B1.out.tape, B1.out.output, B1.out.size, B1.out.block⟩
          generalize wr.drewN nq = w2 at *
          go_wp2_with fail
          go_ret
          exact ⟨congrArg (fun x => Ending.returned (.bool x)) HX.out.symm, B2.out⟩
        · have t2' : decide (n ≤ y) = false := by simp; omega
          have HR : Hid (0 ≤ y ∧ y < n) := ⟨by omega, by omega⟩
          cases hh : hasI (l.take k) y
          case true =>
            rw [hh] at HC
            have HH : Hid (¬ (0 ≤ y ∧ y < n ∧ hasI (l.take k) y = false)) := fun h => by rw [hh] at h; cases h.2.2
            clear hh
            have HX : Hid (F = false) := by
              show _ = _
              rw [HF.out]
              refine withinI_no hlt ?_
              rw [HY.out]
              exact HH.out
            go_quiet ((go_at_call 42; (with_reducible exact HC.out _)))
            have B2 : Hid (Below w.heap.size w (wr.drewN nq)) := ⟨B1.out.os, B1.out.tape, B1.out.output, B1.out.size, B1.out.block⟩
            generalize wr.drewN nq = w2 at *
            go_wp2_with fail
            go_ret
            exact ⟨congrArg (fun x => Ending.returned (.bool x)) HX.out.symm, B2.out⟩
          case false =>
            rw [hh] at HC
            have HH := Lib.hid hh
            clear hh
            go_quiet ((go_at_call 42; (with_reducible exact HC.out _)))
            have B2 : Hid (Below w.heap.size w (wr.drewN nq)) := ⟨B1.out.os, B1.out.tape, B1.out.output, B1.out.size, B1.out.block⟩
            generalize wr.drewN nq = w2 at *
            go_wp2_with fail
            go_roundw
            case rel => exact ⟨k + 1, by omega, by go_num, fun j hj => (by
              by_cases e : j < k
              · exact NO.out j e
              · obtain rfl : j = k := by omega
                rw [HY.out]; exact ⟨HR.out.1, HR.out.2, HH.out⟩), B2.out⟩
            case measure => simp [intOf]; omega
    · obtain rfl : k = l.length := by omega
      have HX : Hid (F = true) := by show _ = _; rw [HF.out]; exact withinI_iff.2 NO.out
      go_wp2_with fail
      go_ret
      exact ⟨congrArg (fun x => Ending.returned (.bool x)) HX.out.symm, B1.out⟩
/-- A point that a route needs lies in one of the tracks. -/
def lieB (P : List Int) (tr : List Int) (p : Int × Bool) : Bool := decide (0 ≤ p.1) && decide (p.1 < (P.length : Int)) && hasI tr (P.getD p.1.toNat 0)
theorem lieB_eq (P tr : List Int) (p : Int × Bool) : lieB P tr p = tr.any fun y => liesB P p y := by
  unfold lieB liesB hasI
  rw [Bool.eq_iff_iff]
  simp only [Bool.and_eq_true, List.any_eq_true, beq_iff_eq, decide_eq_true_eq]
  constructor
  · rintro ⟨⟨h1, h2⟩, y, h3, h4⟩; exact ⟨y, h3, ⟨h1, h2⟩, h4.symm⟩
  · rintro ⟨y, h3, ⟨h1, h2⟩, h4⟩; exact ⟨⟨h1, h2⟩, y, h3, h4.symm⟩
theorem any_no {α : Type} {l : List α} {d : α} {p : α → Bool} (h : ∀ j, j < l.length → p (l.getD j d) = false) : l.any p = false := by
  rw [List.any_eq_false]
  intro x hx
  obtain ⟨i, hi, rfl⟩ := List.mem_iff_getElem.1 hx
  have := h i hi
  rw [List.getD_eq_getElem?_getD, List.getElem?_eq_getElem hi] at this
  simpa using this
set_option maxHeartbeats 2000000 in
theorem lies_any (v vl vt : Value) (T : Tab) (l : List (Int × Bool)) (tr : List Int) (w : World) (hT : TabAt w v T) (hl : PtsAt w vl l) (ht : IntsAt w vt tr) :
    Calls Try.prog 78 #[v, vl, vt] w fun e w' => e = .returned (.bool (l.any (lieB T.pts tr))) ∧ Below w.heap.size w w' := by
  obtain ⟨⟨vp, vr, rfl, hP, _⟩, _, _⟩ := hT
  have hsz := hl.size
  have hpsz := hP.size
  unfold maxLen at hsz hpsz
  obtain ⟨pa, pc, rfl, hpc, hpm, _⟩ := hl.at_
  obtain ⟨va, vc, rfl, hvl, hvm, _⟩ := hP.at_
  unfold maxLen at hpm hvm
  have HL := Lib.hid hl; have HT := Lib.hid ht; have HP := Lib.hid hP
  obtain ⟨w1, hw1⟩ : ∃ w1, w1 = w.alloc (.cells #[.int .i64 T.tracks, .slice va T.pts.length vc, .int .i64 T.sigs, vr] 25) := ⟨_, rfl⟩
  have B1 : Hid (Below w.heap.size w w1) := by rw [hw1]; exact tb_alloc_below _ _
  have K1 : Hid (w1.heap[w.heap.size]? = some (.cells #[.int .i64 T.tracks, .slice va T.pts.length vc, .int .i64 T.sigs, vr] 25 (0, 0))) := by rw [hw1]; exact heap_alloc_new _ _
  have HW1 := Lib.hid hw1
  obtain ⟨F, hF⟩ : ∃ F, F = l.any (lieB T.pts tr) := ⟨_, rfl⟩
  rw [← hF]
  have HF := Lib.hid hF
  clear hF hw1 hl ht hP
  go_enter Try.func78, Try.ntmps78
  go_upto_region 1 with fail
  rw [← HW1.out]
  obtain ⟨tb, htb⟩ : ∃ b, b = w.heap.size := ⟨_, rfl⟩
  have HTB := Lib.hid htb
  rw [← htb] at K1 ⊢
  clear htb HW1
  go_wp2_with fail
  go_loopw [7] (fun i wr => ∃ k : Nat, k ≤ l.length ∧ i = .int .i64 k ∧ (∀ j, j < k → lieB T.pts tr (l.getD j (0, false)) = false) ∧ Below w1.heap.size w1 wr) (fun i _ => l.length - (intOf i).toNat)
  case atStart => exact ⟨0, Nat.zero_le _, rfl, fun j hj => absurd hj (by omega), Below.refl _ _⟩
  case round =>
    obtain ⟨k, hk, rfl, hno, hbel⟩ := hrel
    have NO := Lib.hid hno
    have B2 := Lib.hid hbel
    have BW : Hid (Below w.heap.size w wr) := B1.out.trans (hbel.mono B1.out.size)
    clear hno hbel
    by_cases hlt : k < l.length
    · obtain ⟨b, off, rfl, hb, x0, x1⟩ := (HL.out.below BW.out).cell hlt
      have c1 := cell_row (j := 1) (tb_kept K1.out B2.out) rfl
      have l1 := heap_lt (tb_kept K1.out B2.out)
      have HY : Hid (∀ r, lieB T.pts tr (l.getD k (0, false)) = r → r = false → ∀ j, j < k + 1 → lieB T.pts tr (l.getD j (0, false)) = false) := fun r h1 h2 j hj => by
        by_cases e : j < k
        · exact NO.out j e
        · obtain rfl : j = k := by omega
          rw [h1, h2]
      have HYY : Hid (lieB T.pts tr (l.getD k (0, false)) = true → F = true) := fun h => HF.out.trans (any_getD hlt h)
      have HD : Hid (lieB T.pts tr (l.getD k (0, false)) = (decide (0 ≤ (l.getD k (0, false)).1) && decide ((l.getD k (0, false)).1 < (T.pts.length : Int)) && hasI tr (T.pts.getD (l.getD k (0, false)).1.toNat 0))) := rfl
      generalize lieB T.pts tr (l.getD k (0, false)) = r at *
      generalize l.getD k (0, false) = p at *
      obtain ⟨y, z⟩ := p
      simp only at x0 x1 HD
      clear x1
      by_cases t1 : 0 ≤ y
      · obtain ⟨q, rfl⟩ := Int.eq_ofNat_of_zero_le t1
        by_cases t2 : q < T.pts.length
        · have t2' : decide ((q : Int) < (T.pts.length : Int)) = true := by simp; omega
          obtain ⟨b2, off2, rfl, hb2, y0⟩ := (HP.out.below BW.out).cell t2
          have HC := Lib.hid (rhas_any vt tr (T.pts.getD q 0) wr (HT.out.below BW.out))
          have HR0 : Hid (r = hasI tr (T.pts.getD q 0)) := by show _ = _; rw [HD.out, t2']; simp
          generalize T.pts.getD q 0 = u at *
          have BN := BW
          clear HD t1
          cases hh : hasI tr u
          case true =>
            rw [hh] at HC HR0
            have HX : Hid (F = true) := HYY.out HR0.out
            clear hh
            go_wp2_with fail
            refine HC.out.mono ?_
            rintro e w3 ⟨rfl, rfl⟩
            go_wp2_with fail
            go_ret
            exact ⟨congrArg (fun x => Ending.returned (.bool x)) HX.out.symm, BW.out⟩
          case false =>
            rw [hh] at HC HR0
            have HR := HR0
            have BN := B2
            clear hh
            go_wp2_with fail
            refine HC.out.mono ?_
            rintro e w3 ⟨rfl, rfl⟩
            clear y0 hb2
            go_wp2_with fail
            go_roundw
            case rel => exact ⟨k + 1, by omega, by go_num, HY.out _ rfl HR.out, BN.out⟩
            case measure => simp [intOf]; omega
        · have t2' : decide ((q : Int) < (T.pts.length : Int)) = false := by simp; omega
          have HR : Hid (r = false) := by show _ = _; rw [HD.out, t2']; simp
          have BN := B2
          clear HD t1
          go_wp2_with fail
          go_roundw
          case rel => exact ⟨k + 1, by omega, by go_num, HY.out _ rfl HR.out, BN.out⟩
          case measure => simp [intOf]; omega
      · have t1' : decide (0 ≤ y) = false := by simp; omega
        have HR : Hid (r = false) := by show _ = _; rw [HD.out, t1']; simp
        have BN := B2
        clear HD
        go_wp2_with fail
        go_roundw
        case rel => exact ⟨k + 1, by omega, by go_num, HY.out _ rfl HR.out, BN.out⟩
        case measure => simp [intOf]; omega
    · obtain rfl : k = l.length := by omega
      have HX : Hid (F = false) := HF.out.trans (any_no NO.out)
      go_wp2_with fail
      go_ret
      exact ⟨congrArg (fun x => Ending.returned (.bool x)) HX.out.symm, BW.out⟩
end Go.Proofs.Ytlfcmedhadfheaa
