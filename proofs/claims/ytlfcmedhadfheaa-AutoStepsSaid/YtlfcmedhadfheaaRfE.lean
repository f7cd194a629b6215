/- The document's table: Check. -/
import Derived.Test.YtlfcmedhadfheaaRfD
namespace Go.Proofs.Ytlfcmedhadfheaa
open Go.RowKit
set_option linter.unusedVariables false
set_option linter.unusedSimpArgs false
/-- The box of Check. -/
def rsize (T : Tab) : Bool := decide (1 ≤ T.tracks) && (decide (T.tracks ≤ 24) && (decide (T.pts.length ≤ 12) && (decide (1 ≤ T.sigs) && (decide (T.sigs ≤ 12) && (decide (1 ≤ T.rts.length) && decide (T.rts.length ≤ 16))))))
theorem rsize_eq (T : Tab) : rsize T = sizesB T := by
  unfold rsize sizesB
  have e1 : (!decide (T.tracks < 1)) = decide (1 ≤ T.tracks) := by rw [← decide_not]; exact decide_eq_decide.2 (by omega)
  have e2 : (!decide (24 < T.tracks)) = decide (T.tracks ≤ 24) := by rw [← decide_not]; exact decide_eq_decide.2 (by omega)
  have e3 : (!decide (12 < T.pts.length)) = decide (T.pts.length ≤ 12) := by rw [← decide_not]; exact decide_eq_decide.2 (by omega)
  have e4 : (!decide (T.sigs < 1)) = decide (1 ≤ T.sigs) := by rw [← decide_not]; exact decide_eq_decide.2 (by omega)
  have e5 : (!decide (12 < T.sigs)) = decide (T.sigs ≤ 12) := by rw [← decide_not]; exact decide_eq_decide.2 (by omega)
  have e6 : (!decide (T.rts.length < 1)) = decide (1 ≤ T.rts.length) := by rw [← decide_not]; exact decide_eq_decide.2 (by omega)
  have e7 : (!decide (16 < T.rts.length)) = decide (T.rts.length ≤ 16) := by rw [← decide_not]; exact decide_eq_decide.2 (by omega)
  rw [e1, e2, e3, e4, e5, e6, e7]
def rpt (t x : Int) : Bool := decide (0 ≤ x) && decide (x < t)
theorem rpt_eq (t x : Int) : rpt t x = !outB t x := by
  unfold rpt outB
  rw [Bool.not_or, ← decide_not, ← decide_not]
  congr 1
  · exact decide_eq_decide.2 (by omega)
  · exact decide_eq_decide.2 (by omega)
theorem all_range {α : Type} (l : List α) (d : α) (p : α → Bool) : ((List.range l.length).all fun i => p (l.getD i d)) = l.all p := by
  rw [Bool.eq_iff_iff, List.all_eq_true, List.all_eq_true]
  constructor
  · intro h x hx
    obtain ⟨i, hi, rfl⟩ := List.mem_iff_getElem.1 hx
    have := h i (List.mem_range.2 hi)
    rwa [List.getD_eq_getElem?_getD, List.getElem?_eq_getElem hi] at this
  · intro h i hi
    exact h _ (getD_mem' (List.mem_range.1 hi))
theorem rpts_eq (T : Tab) : ((List.range T.pts.length).all fun i => rpt T.tracks (T.pts.getD i 0)) = ptsB T := by
  rw [all_range T.pts 0 (rpt T.tracks)]
  unfold ptsB
  rw [List.not_any_eq_all_not]
  congr 1; funext x; exact rpt_eq _ _
theorem missB_all {T : Tab} {n : Nat} : declB T n = ((List.range (confL T n T.rts.length).length).all fun i => hasI (T.rts.getD n rt0).con ((confL T n T.rts.length).getD i 0)) := by
  rw [all_range (confL T n T.rts.length) 0 (fun k => hasI (T.rts.getD n rt0).con k)]
  unfold declB
  rw [List.not_any_eq_all_not]
  congr 1; funext x
  unfold missB
  rw [Bool.not_not]
set_option maxRecDepth 100000 in
set_option maxHeartbeats 8000000 in
theorem rcheck_any (v : Value) (T : Tab) (w : World) (hT : TabAt w v T) (hbig : ∀ r ∈ T.rts, r.pts.length ≤ 1000000) :
    Calls Try.prog 18 #[v] w fun e w' => e = .returned (.int .i64 (checkE T)) ∧ Below w.heap.size w w' := by
  have hT0 := hT
  obtain ⟨⟨vp, vr, rfl, hP, hr⟩, _, _⟩ := hT
  obtain ⟨a, c, C0, rfl, hlc, hcm, _⟩ := hr.at_
  obtain ⟨⟨va, vc, rfl, hvl, hvm, _⟩, _⟩ := id hP
  have HT := Lib.hid hT0; have HP := Lib.hid hP; have HR := Lib.hid hr; have HB := Lib.hid hbig
  have hnz := hr.size; have hpz := hP.size
  obtain ⟨w1, hw1⟩ : ∃ w1, w1 = w.alloc (.cells #[.int .i64 T.tracks, .slice va T.pts.length vc, .int .i64 T.sigs, .slice a T.rts.length c] 25) := ⟨_, rfl⟩
  have B1 : Hid (Below w.heap.size w w1) := by rw [hw1]; exact tb_alloc_below _ _
  have K1 : Hid (w1.heap[w.heap.size]? = some (.cells #[.int .i64 T.tracks, .slice va T.pts.length vc, .int .i64 T.sigs, .slice a T.rts.length c] 25 (0, 0))) := by rw [hw1]; exact heap_alloc_new _ _
  have HW1 := Lib.hid hw1
  obtain ⟨E, hE⟩ : ∃ E, E = checkE T := ⟨_, rfl⟩
  rw [← hE]
  have HE : Hid (E = if (sizesB T && (ptsB T && routesB T)) = false then 260 else if declsB T = false then 261 else 0) := hE
  unfold maxLen at hvm hcm hnz hpz
  obtain ⟨tb, htb⟩ : ∃ b, b = w.heap.size := ⟨_, rfl⟩
  have HTB := Lib.hid htb
  rw [← htb] at K1
  obtain ⟨F0, hF0⟩ : ∃ F, F = sizesB T := ⟨_, rfl⟩
  have HF0 : Hid (F0 = (decide (1 ≤ T.tracks) && (decide (T.tracks ≤ 24) && (decide (T.pts.length ≤ 12) && (decide (1 ≤ T.sigs) && (decide (T.sigs ≤ 12) && (decide (1 ≤ T.rts.length) && decide (T.rts.length ≤ 16)))))))) := by show _ = _; rw [hF0, ← rsize_eq]; rfl
  have HFS := Lib.hid hF0
  clear hT0 hP hr hbig hw1 hE htb hF0
  go_enter Try.func18, Try.ntmps18
  go_upto_region 1 with fail
  rw [← HW1.out, ← HTB.out]
  clear HW1
  go_cut [3] from 9 (fun o wx => o = .bool F0 ∧ Below w1.heap.size w1 wx)
  case first =>
    have t0 := cell_row (j := 0) K1.out rfl; have t1 := cell_row (j := 1) K1.out rfl; have t2 := cell_row (j := 2) K1.out rfl; have t3 := cell_row (j := 3) K1.out rfl
    have lt := heap_lt K1.out
    cases s1 : decide (1 ≤ T.tracks)
    case false =>
      have HX : Hid (F0 = false) := by show _ = _; rw [HF0.out, s1]; rfl
      go_wp2_with fail
      go_meet
      case rel => exact ⟨congrArg Value.bool HX.out.symm, Below.refl _ _⟩
    case true =>
    rw [s1, Bool.true_and] at HF0
    cases s2 : decide (T.tracks ≤ 24)
    case false =>
      have HX : Hid (F0 = false) := by show _ = _; rw [HF0.out, s2]; rfl
      go_wp2_with fail
      go_meet
      case rel => exact ⟨congrArg Value.bool HX.out.symm, Below.refl _ _⟩
    case true =>
    rw [s2, Bool.true_and] at HF0
    cases s3 : decide (T.pts.length ≤ 12)
    case false =>
      have HX : Hid (F0 = false) := by show _ = _; rw [HF0.out, s3]; rfl
      have e3 : decide ((T.pts.length : Int) ≤ 12) = false := by simp at s3 ⊢; omega
      go_wp2_with fail
      go_meet
      case rel => exact ⟨congrArg Value.bool HX.out.symm, Below.refl _ _⟩
    case true =>
    have e3 : decide ((T.pts.length : Int) ≤ 12) = true := by simp at s3 ⊢; omega
    rw [s3, Bool.true_and] at HF0
    cases s4 : decide (1 ≤ T.sigs)
    case false =>
      have HX : Hid (F0 = false) := by show _ = _; rw [HF0.out, s4]; rfl
      go_wp2_with fail
      go_meet
      case rel => exact ⟨congrArg Value.bool HX.out.symm, Below.refl _ _⟩
    case true =>
    rw [s4, Bool.true_and] at HF0
    cases s5 : decide (T.sigs ≤ 12)
    case false =>
      have HX : Hid (F0 = false) := by show _ = _; rw [HF0.out, s5]; rfl
      go_wp2_with fail
      go_meet
      case rel => exact ⟨congrArg Value.bool HX.out.symm, Below.refl _ _⟩
    case true =>
    rw [s5, Bool.true_and] at HF0
    cases s6 : decide (1 ≤ T.rts.length)
    case false =>
      have HX : Hid (F0 = false) := by show _ = _; rw [HF0.out, s6]; rfl
      have e6 : decide ((1 : Int) ≤ (T.rts.length : Int)) = false := decide_eq_false (by have := of_decide_eq_false s6; omega)
      go_wp2_with fail
      go_meet
      case rel => exact ⟨congrArg Value.bool HX.out.symm, Below.refl _ _⟩
    case true =>
    have e6 : decide ((1 : Int) ≤ (T.rts.length : Int)) = true := by simp at s6 ⊢; omega
    rw [s6, Bool.true_and] at HF0
    cases s7 : decide (T.rts.length ≤ 16)
    case false =>
      have HX : Hid (F0 = false) := by show _ = _; rw [HF0.out, s7]
      have e7 : decide ((T.rts.length : Int) ≤ 16) = false := by simp at s7 ⊢; omega
      go_wp2_with fail
      go_meet
      case rel => exact ⟨congrArg Value.bool HX.out.symm, Below.refl _ _⟩
    case true =>
    have e7 : decide ((T.rts.length : Int) ≤ 16) = true := by simp at s7 ⊢; omega
    have HX : Hid (F0 = true) := by show _ = _; rw [HF0.out, s7]
    go_wp2_with fail
    go_meet
    case rel => exact ⟨congrArg Value.bool HX.out.symm, Below.refl _ _⟩
  case rest =>
    obtain ⟨rfl, hb⟩ := hcut
    have B2 := Lib.hid hb
    have HN16 : Hid (F0 = true → 1 ≤ T.rts.length ∧ T.rts.length ≤ 16) := fun h => by
      rw [HF0.out] at h
      simp only [Bool.and_eq_true, decide_eq_true_eq] at h
      exact h.2.2.2.2.2
    clear hb HF0
    obtain ⟨I, hI⟩ : ∃ I : Nat → Bool, I = fun k => (F0 && (List.range k).all fun i => rpt T.tracks (T.pts.getD i 0)) := ⟨_, rfl⟩
    have HI0 : Hid (I 0 = F0) := by show _ = _; rw [hI]; simp
    have HI1 : Hid (∀ k, I (k + 1) = (I k && rpt T.tracks (T.pts.getD k 0))) := by
      show ∀ k, _
      intro k; rw [hI]; simp only [List.range_succ, List.all_append, List.all_cons, List.all_nil, Bool.and_true, Bool.and_assoc]
    have HIF : Hid (I T.pts.length = (F0 && ptsB T)) := by show _ = _; rw [hI, ← rpts_eq]
    have HIM : Hid (∀ k, k ≤ T.pts.length → I k = false → false = I T.pts.length) := by
      show ∀ k, _
      intro k hk h
      cases e : I T.pts.length with
      | false => rfl
      | true =>
        exfalso
        rw [hI, Bool.and_eq_true, List.all_eq_true] at e
        have : I k = true := by
          rw [hI, Bool.and_eq_true, List.all_eq_true]
          exact ⟨e.1, fun i hi => e.2 i (List.mem_range.2 (by have := List.mem_range.1 hi; omega))⟩
        rw [this] at h; cases h
    clear hI
    rw [← HI0.out]
    have K2 := Lib.hid (tb_kept K1.out B2.out)
    have HBAD : Hid ((F0 && ptsB T) = false → 260 = E) := fun h => by
      rw [HE.out, ← HFS.out]
      cases hf : F0
      · rfl
      · rw [hf, Bool.true_and] at h; rw [h]; rfl
    go_wp2_with fail
    go_loopw [3, 4] (fun o p wr => ∃ k : Nat, k ≤ T.pts.length ∧ o = .bool (I k) ∧ p = .int .i64 k ∧ Below w1.heap.size w1 wr) (fun _ p _ => T.pts.length - (intOf p).toNat)
    case atStart => exact ⟨0, Nat.zero_le _, rfl, rfl, B2.out⟩
    case round =>
      clear B2 K2
      obtain ⟨k, hk, rfl, rfl, hb⟩ := hrel
      have B3 := Lib.hid hb
      have BW3 : Hid (Below w.heap.size w wr) := B1.out.trans (hb.mono B1.out.size)
      clear hb
      have K3 := Lib.hid (tb_kept K1.out B3.out)
      have t0 := cell_row (j := 0) K3.out rfl; have t1 := cell_row (j := 1) K3.out rfl; have t3 := cell_row (j := 3) K3.out rfl
      have lt := heap_lt K3.out
      by_cases hlt : k < T.pts.length
      case pos =>
        have HM := Lib.hid (HIM.out k hk)
        have HX1 := Lib.hid (HI1.out k)
        generalize I k = g at *
        cases g
        case false =>
          have HX : Hid (260 = E) := HBAD.out (HIF.out.symm.trans (HM.out rfl).symm)
          go_wp2_with fail
          clear t0 t1 t3 lt
          go_loopw [3, 5] (fun o p wr => o = .bool false ∧ p = .int .i64 0 ∧ Below w1.heap.size w1 wr) (fun _ _ _ => 0)
          case atStart => exact ⟨rfl, rfl, B3.out⟩
          case round =>
            obtain ⟨rfl, rfl, hb⟩ := hrel
            have BZ : Hid (Below w.heap.size w wr) := B1.out.trans (hb.mono B1.out.size)
            have t3 := cell_row (j := 3) (tb_kept K1.out hb) rfl
            have lt := heap_lt (tb_kept K1.out hb)
            clear hb
            by_cases hN0 : 0 < T.rts.length
            case pos =>
              have tz : decide ((0 : Int) < (T.rts.length : Int)) = true := decide_eq_true (by omega)
              go_wp2_with fail
              go_ret
              exact ⟨congrArg (fun x => Ending.returned (.int .i64 x)) HX.out, BZ.out⟩
            case neg =>
              have tz : decide ((0 : Int) < (T.rts.length : Int)) = false := decide_eq_false (by omega)
              go_wp2_with fail
              go_ret
              exact ⟨congrArg (fun x => Ending.returned (.int .i64 x)) HX.out, BZ.out⟩
        case true =>
          obtain ⟨b, off, rfl, hb, x0⟩ := (HP.out.below BW3.out).cell hlt
          have HX2 : Hid (I (k + 1) = (decide (0 ≤ T.pts.getD k 0) && decide (T.pts.getD k 0 < T.tracks))) := by show _ = _; rw [HX1.out]; rfl
          generalize T.pts.getD k 0 = y at *
          go_upto_region 5 with fail
          cases s1 : decide (0 ≤ y)
          case false =>
            have HX : Hid (false = I (k + 1)) := by show _ = _; rw [HX2.out, s1]; rfl
            go_quiet (fail)
            have B4 : Hid (Below w1.heap.size w1 (wr.drewN nq)) := ⟨B3.out.os, B3.out.tape, B3.out.output, B3.out.size, B3.out.block⟩
            generalize wr.drewN nq = w4 at *
            clear t0 t1 t3 lt x0 hb
            go_wp2_with fail
            go_roundw
            case rel => exact ⟨k + 1, by omega, congrArg Value.bool HX.out, by go_num, B4.out⟩
            case measure => simp [intOf]; omega
          case true =>
            cases s2 : decide (y < T.tracks)
            case false =>
              have HX : Hid (false = I (k + 1)) := by show _ = _; rw [HX2.out, s1, s2]; rfl
              go_quiet (fail)
              have B4 : Hid (Below w1.heap.size w1 (wr.drewN nq)) := ⟨B3.out.os, B3.out.tape, B3.out.output, B3.out.size, B3.out.block⟩
              generalize wr.drewN nq = w4 at *
              clear t0 t1 t3 lt x0 hb
              go_wp2_with fail
              go_roundw
              case rel => exact ⟨k + 1, by omega, congrArg Value.bool HX.out, by go_num, B4.out⟩
              case measure => simp [intOf]; omega
            case true =>
              have HX : Hid (true = I (k + 1)) := by show _ = _; rw [HX2.out, s1, s2]; rfl
              go_quiet (fail)
              have B4 : Hid (Below w1.heap.size w1 (wr.drewN nq)) := ⟨B3.out.os, B3.out.tape, B3.out.output, B3.out.size, B3.out.block⟩
              generalize wr.drewN nq = w4 at *
              clear t0 t1 t3 lt x0 hb
              go_wp2_with fail
              go_roundw
              case rel => exact ⟨k + 1, by omega, congrArg Value.bool HX.out, by go_num, B4.out⟩
              case measure => simp [intOf]; omega
      case neg =>
      obtain rfl : k = T.pts.length := by omega
      cases hG : I T.pts.length
      case false =>
        have HX : Hid (260 = E) := HBAD.out (HIF.out.symm.trans hG)
        clear hG
        go_wp2_with fail
        clear t0 t1 t3 lt
        go_loopw [3, 5] (fun o p wr => o = .bool false ∧ p = .int .i64 0 ∧ Below w1.heap.size w1 wr) (fun _ _ _ => 0)
        case atStart => exact ⟨rfl, rfl, B3.out⟩
        case round =>
          obtain ⟨rfl, rfl, hb⟩ := hrel
          have BZ : Hid (Below w.heap.size w wr) := B1.out.trans (hb.mono B1.out.size)
          have t3 := cell_row (j := 3) (tb_kept K1.out hb) rfl
          have lt := heap_lt (tb_kept K1.out hb)
          clear hb
          by_cases hN0 : 0 < T.rts.length
          case pos =>
            have tz : decide ((0 : Int) < (T.rts.length : Int)) = true := decide_eq_true (by omega)
            go_wp2_with fail
            go_ret
            exact ⟨congrArg (fun x => Ending.returned (.int .i64 x)) HX.out, BZ.out⟩
          case neg =>
            have tz : decide ((0 : Int) < (T.rts.length : Int)) = false := decide_eq_false (by omega)
            go_wp2_with fail
            go_ret
            exact ⟨congrArg (fun x => Ending.returned (.int .i64 x)) HX.out, BZ.out⟩
      case true =>
      have hfp : F0 = true ∧ ptsB T = true := by rw [HIF.out, Bool.and_eq_true] at hG; exact hG
      have hnn := HN16.out hfp.1
      have HE2 : Hid (E = if routesB T = false then 260 else if declsB T = false then 261 else 0) := by show _ = _; rw [HE.out, ← HFS.out, hfp.1, hfp.2]; rfl
      clear hG hfp HBAD HIF HIM HI0 HI1 HN16
      obtain ⟨R, hR⟩ : ∃ R : Nat → Bool, R = fun k => ((List.range k).all fun i => routeB T i) := ⟨_, rfl⟩
      have HR0 : Hid (R 0 = true) := by show _ = _; rw [hR]; rfl
      have HR1 : Hid (∀ k, R (k + 1) = (R k && routeB T k)) := by
        show ∀ k, _
        intro k; rw [hR]; simp only [List.range_succ, List.all_append, List.all_cons, List.all_nil, Bool.and_true]
      have HRF : Hid (R T.rts.length = routesB T) := by show _ = _; rw [hR]; rfl
      have HRM : Hid (∀ k, k ≤ T.rts.length → R k = false → 260 = E) := by
        show ∀ k, _
        intro k hk h
        rw [HE2.out]
        cases e : routesB T with
        | false => rfl
        | true =>
          exfalso
          have : R k = true := by
            rw [hR, List.all_eq_true]
            intro i hi
            exact routesB_iff.1 e i (by have := List.mem_range.1 hi; omega)
          rw [this] at h; cases h
      clear hR
      go_wp2_with fail
      clear t0 t1 t3 lt
      go_loopw [3, 5] (fun o p wr => ∃ k : Nat, k ≤ T.rts.length ∧ o = .bool (R k) ∧ p = .int .i64 k ∧ Below w1.heap.size w1 wr) (fun _ p _ => T.rts.length - (intOf p).toNat)
      case atStart => exact ⟨0, Nat.zero_le _, congrArg Value.bool HR0.out.symm, rfl, B3.out⟩
      case round =>
        clear B3 BW3 K3
        obtain ⟨k, hk, rfl, rfl, hb⟩ := hrel
        have B3 := Lib.hid hb
        have BW3 : Hid (Below w.heap.size w wr) := B1.out.trans (hb.mono B1.out.size)
        clear hb
        have K3 := Lib.hid (tb_kept K1.out B3.out)
        have t0 := cell_row (j := 0) K3.out rfl; have t1 := cell_row (j := 1) K3.out rfl; have t2 := cell_row (j := 2) K3.out rfl; have t3 := cell_row (j := 3) K3.out rfl
        have lt := heap_lt K3.out
        by_cases hlt : k < T.rts.length
        case pos =>
          have HM := Lib.hid (HRM.out k hk)
          have HX1 := Lib.hid (HR1.out k)
          generalize R k = g at *
          cases g
          case false =>
            have HX := Lib.hid (HM.out rfl)
            go_wp2_with fail
            go_ret
            exact ⟨congrArg (fun x => Ending.returned (.int .i64 x)) HX.out, BW3.out⟩
          case true =>
            have HRC := Lib.hid (rroute_any _ T k wr (HT.out.below BW3.out) hlt HB.out)
            have HX2 : Hid (routeB T k = R (k + 1)) := by show _ = _; rw [HX1.out, Bool.true_and]
            generalize routeB T k = g2 at *
            go_wp2_with fail
            refine HRC.out.mono ?_
            rintro e w4 ⟨rfl, hb⟩
            have B4 := Lib.hid (B3.out.trans (hb.mono B3.out.size))
            clear hb t0 t1 t2 t3 lt
            go_wp2_with fail
            go_roundw
            case rel => exact ⟨k + 1, by omega, congrArg Value.bool HX2.out, by go_num, B4.out⟩
            case measure => simp [intOf]; omega
        case neg =>
        obtain rfl : k = T.rts.length := by omega
        cases hG : R T.rts.length
        case false =>
          have HX := Lib.hid (HRM.out _ (Nat.le_refl _) hG)
          clear hG
          go_wp2_with fail
          go_ret
          exact ⟨congrArg (fun x => Ending.returned (.int .i64 x)) HX.out, BW3.out⟩
        case true =>
        have HE3 : Hid (E = if declsB T = false then 261 else 0) := by show _ = _; rw [HE2.out, ← HRF.out, hG]; rfl
        have HCF := Lib.hid (rconf_any _ T wr (HT.out.below BW3.out) (by omega) (by omega))
        clear hG HRF HRM HR0 HR1 HE2
        go_wp2_with fail
        refine HCF.out.mono ?_
        rintro e w4 ⟨⟨v, ob, V, rfl, hsl, hin⟩, hb⟩
        have B4 := Lib.hid (B3.out.trans (hb.mono B3.out.size))
        have I4 := Lib.hid hin
        obtain ⟨oa, oc, rfl, ho1, ho2, ho3⟩ := hsl
        obtain ⟨rfl, hrow⟩ := ho3 (by omega)
        have R4 := Lib.hid hrow
        unfold maxLen at ho2
        clear hb hin hrow t0 t1 t2 t3 lt HCF K3 B3 BW3 ho3
        go_wp2_with fail
        go_loopw [7, 8] (fun p _i wr => ∃ n : Nat, n ≤ T.rts.length ∧ p = .int .i64 n ∧ (∀ j, j < n → declB T j = true) ∧ Below w4.heap.size w4 wr) (fun p _ _ => T.rts.length - (intOf p).toNat)
        case atStart => exact ⟨0, Nat.zero_le _, rfl, fun j hj => absurd hj (by omega), Below.refl _ _⟩
        case round =>
          obtain ⟨n, hn, rfl, hno, hb⟩ := hrel
          have NO := Lib.hid hno; have B5 := Lib.hid hb
          clear hno hb
          by_cases hln : n < T.rts.length
          case pos =>
            have HLN := Lib.hid hln
            obtain ⟨⟨la, lc, hvn, hl1, hl2, _⟩, _⟩ := id (I4.out n hln)
            have HIN : Hid (IntsAt w4 (.slice la (confL T n T.rts.length).length lc) (confL T n T.rts.length)) := hvn ▸ I4.out n hln
            have HVN := Lib.hid hvn
            have hcl := confL_len T n T.rts.length
            unfold maxLen at hl2
            clear hvn
            go_wp2_with fail
            go_loopw [8] (fun p wr => ∃ i : Nat, i ≤ (confL T n T.rts.length).length ∧ p = .int .i64 i ∧ (∀ j, j < i → hasI (T.rts.getD n rt0).con ((confL T n T.rts.length).getD j 0) = true) ∧ Below w4.heap.size w4 wr) (fun p _ => (confL T n T.rts.length).length - (intOf p).toNat)
            case atStart => exact ⟨0, Nat.zero_le _, rfl, fun j hj => absurd hj (by omega), B5.out⟩
            case round =>
              clear B5
              obtain ⟨i, hi, rfl, hno, hb⟩ := hrel
              have NO2 := Lib.hid hno; have B5 := Lib.hid hb
              have BW5 : Hid (Below w.heap.size w wr) := B1.out.trans ((B4.out.trans (hb.mono B4.out.size)).mono B1.out.size)
              clear hno hb
              have x0 : wr.cell? ⟨ob, n, none⟩ = some (.slice la (confL T n T.rts.length).length lc) := by
                rw [← HVN.out]; exact (B5.out.cell R4.out.lt).trans (R4.out.cell HLN.out)
              have lo : ob < wr.heap.size := Nat.lt_of_lt_of_le R4.out.lt B5.out.size
              by_cases hli : i < (confL T n T.rts.length).length
              case pos =>
                obtain ⟨lb, lof, rfl, hlb, y0⟩ := (HIN.out.below B5.out).cell hli
                obtain ⟨rb, ro, C', rfl, hrb, hrc, hrr⟩ := HR.out.cells (i := n) HLN.out
                have z4 := (BW5.out.cell hrb).trans (hrc 4 (by omega))
                obtain ⟨D, hD⟩ : ∃ D, D = T.rts.getD n rt0 := ⟨_, rfl⟩
                rw [← hD] at hrr
                obtain ⟨⟨da, dc, hdn, _⟩, _⟩ := hrr.con
                rw [hdn] at z4
                have HDC : Hid (IntsAt w (.slice da D.con.length dc) D.con) := hdn ▸ hrr.con
                have HC := Lib.hid (rhas_q _ D.con ((confL T n T.rts.length).getD i 0) wr (HDC.out.below BW5.out))
                have K5 := Lib.hid (tb_kept (tb_kept K1.out B4.out) B5.out)
                have t3 := cell_row (j := 3) K5.out rfl
                have lt := heap_lt K5.out
                have lr : rb < wr.heap.size := Nat.lt_of_lt_of_le hrb BW5.out.size
                have HNN : Hid (hasI D.con ((confL T n T.rts.length).getD i 0) = true → ∀ j, j < i + 1 → hasI (T.rts.getD n rt0).con ((confL T n T.rts.length).getD j 0) = true) := fun h j hj => by
                  by_cases e : j < i
                  · exact NO2.out j e
                  · obtain rfl : j = i := by omega
                    rw [← hD]; exact h
                have HNX : Hid (hasI D.con ((confL T n T.rts.length).getD i 0) = false → 261 = E) := fun h => by
                  rw [HE3.out, declsB_no HLN.out (by
                    rw [missB_all, List.all_eq_false]
                    exact ⟨i, List.mem_range.2 hli, by rw [← hD, h]; decide⟩)]; rfl
                clear hD hrr hrc hdn hrb
                generalize hasI D.con ((confL T n T.rts.length).getD i 0) = h at *
                generalize (confL T n T.rts.length).getD i 0 = y at *
                go_upto_region 19 with fail
                cases h
                case false =>
                  have HX := Lib.hid (HNX.out rfl)
                  go_quiet ((go_at_call 42; (with_reducible exact HC.out _)))
                  have B6 : Hid (Below w.heap.size w (wr.drewN nq)) := ⟨BW5.out.os, BW5.out.tape, BW5.out.output, BW5.out.size, BW5.out.block⟩
                  generalize wr.drewN nq = w6 at *
                  clear x0 lo y0 z4 t3 lt lr hlb
                  go_wp2_with fail
                  go_ret
                  exact ⟨congrArg (fun x => Ending.returned (.int .i64 x)) HX.out, B6.out⟩
                case true =>
                  have HX := Lib.hid (HNN.out rfl)
                  go_quiet ((go_at_call 42; (with_reducible exact HC.out _)))
                  have B6 : Hid (Below w4.heap.size w4 (wr.drewN nq)) := ⟨B5.out.os, B5.out.tape, B5.out.output, B5.out.size, B5.out.block⟩
                  generalize wr.drewN nq = w6 at *
                  clear x0 lo y0 z4 t3 lt lr hlb
                  go_wp2_with fail
                  go_roundw
                  case rel => exact ⟨i + 1, by omega, by go_num, HX.out, B6.out⟩
                  case measure => simp [intOf]; omega
              case neg =>
              obtain rfl : i = (confL T n T.rts.length).length := by omega
              have HDN : Hid (∀ j, j < n + 1 → declB T j = true) := fun j hj => by
                by_cases e : j < n
                · exact NO.out j e
                · obtain rfl : j = n := by omega
                  rw [missB_all, List.all_eq_true]
                  exact fun i hi => NO2.out i (List.mem_range.1 hi)
              go_wp2_with fail
              clear x0 lo
              go_roundw
              case rel => exact ⟨n + 1, by have := HLN.out; omega, by go_num, HDN.out, B5.out⟩
              case measure => have := HLN.out; simp [intOf]; omega
          case neg =>
          obtain rfl : n = T.rts.length := by omega
          have HX : Hid (0 = E) := by show _ = _; rw [HE3.out, declsB_iff.2 NO.out]; rfl
          go_wp2_with fail
          go_ret
          exact ⟨congrArg (fun x => Ending.returned (.int .i64 x)) HX.out, B1.out.trans ((B4.out.trans (B5.out.mono B4.out.size)).mono B1.out.size)⟩
end Go.Proofs.Ytlfcmedhadfheaa
