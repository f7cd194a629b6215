/- A table may be (table.Check). -/
import Derived.Test.YtpodedhnlicckaaGreatDoorTabC
namespace Go.Proofs.YtpodedhnlicckaaGreatDoor
open Go.RowKit
set_option linter.unusedVariables false
set_option linter.unusedSimpArgs false
def outB (n x : Int) : Bool := decide (x < 0) || decide (n ≤ x)
def missB (T : Tab) (n : Nat) (k : Int) : Bool := !hasI (T.rts.getD n rt0).con k
def sizesB (T : Tab) : Bool := !decide (T.tracks < 1) && (!decide (24 < T.tracks) && (!decide (12 < T.pts.length) && (!decide (T.sigs < 1) && (!decide (12 < T.sigs) && (!decide (T.rts.length < 1) && !decide (16 < T.rts.length))))))
def ptsB (T : Tab) : Bool := !T.pts.any (outB T.tracks)
def routesB (T : Tab) : Bool := (List.range T.rts.length).all (routeB T)
def declB (T : Tab) (n : Nat) : Bool := !(confL T n T.rts.length).any (missB T n)
def declsB (T : Tab) : Bool := (List.range T.rts.length).all (declB T)
def checkE (T : Tab) : Int := if (sizesB T && (ptsB T && routesB T)) = false then 260 else if declsB T = false then 261 else 0
theorem check1_any (x t s : Int) (vp vr : Value) (tb : Nat) (w : World) (ht : w.heap[tb]? = some (.cells #[.int .i64 t, vp, .int .i64 s, vr] 25 (0, 0))) :
    Calls Tryz.prog 35 #[.int .i64 x, .pointer (some ⟨tb, 0, none⟩)] w fun e w' => e = .returned (.bool (outB t x)) ∧ Below w.heap.size w w' := by
  have HP : Hid (outB t x = (decide (x < 0) || decide (t ≤ x))) := rfl
  rw [HP.out]
  clear HP
  have c0 := cell_row (j := 0) ht rfl
  have l1 := heap_lt ht
  clear ht
  cases t1 : decide (x < 0)
  case true =>
    go_enter Tryz.func35, Tryz.ntmps35
    go_wp2_with fail
    go_ret
    exact ⟨by first | rfl | simp, Below.refl _ _⟩
  case false =>
    go_enter Tryz.func35, Tryz.ntmps35
    go_wp2_with fail
    go_ret
    exact ⟨by first | rfl | simp, Below.refl _ _⟩
set_option maxRecDepth 100000 in
theorem check2_any (k : Int) (T : Tab) (vp vr : Value) (n tb nb : Nat) (w : World) (hk1 : n < T.rts.length) (hr : RtsAt w vr T.rts)
    (ht : w.heap[tb]? = some (.cells #[.int .i64 T.tracks, vp, .int .i64 T.sigs, vr] 25 (0, 0))) (hn : w.heap[nb]? = some (.cells #[.int .i64 (n : Int)] 3 (0, 0))) :
    Calls Tryz.prog 37 #[.int .i64 k, .pointer (some ⟨tb, 0, none⟩), .pointer (some ⟨nb, 0, none⟩)] w fun e w' => e = .returned (.bool (missB T n k)) ∧ Below w.heap.size w w' := by
  obtain ⟨a, c, C, rfl, hlc, hcm, _⟩ := hr.at_
  obtain ⟨b, off, C, rfl, hb, hc, hR⟩ := hr.cells hk1
  have hsz := hr.size
  unfold maxLen at hsz
  have x4 : w.cell? ⟨b, off + n * 6 + 4, none⟩ = some (C 4) := hc 4 (by omega)
  have c3 := cell_row (j := 3) ht rfl
  have n0 := cell_row (j := 0) hn rfl
  have l1 := heap_lt ht; have l2 := heap_lt hn
  have HC := Lib.hid (contains_int (C 4) _ k w hR.con)
  have HP : Hid (missB T n k = !hasI (T.rts.getD n rt0).con k) := rfl
  rw [HP.out]
  generalize hlen : T.rts.length = m at *
  generalize hasI (T.rts.getD n rt0).con k = r at *
  clear hc ht hn hr hlen hR HP
  go_enter Tryz.func37, Tryz.ntmps37
  go_wp2_with fail
  (with_reducible refine HC.out.mono ?_)
  rintro e w2 ⟨rfl, rfl⟩
  go_wp2_with fail
  go_ret
  exact ⟨rfl, Below.refl _ _⟩
theorem routesB_no {T : Tab} {n : Nat} (h : n < T.rts.length) (hr : routeB T n = false) : routesB T = false := by
  unfold routesB
  rw [List.all_eq_false]
  exact ⟨n, by simpa using h, by simp [hr]⟩
theorem routesB_iff {T : Tab} : routesB T = true ↔ ∀ n, n < T.rts.length → routeB T n = true := by
  unfold routesB
  simp only [List.all_eq_true, List.mem_range]
theorem declsB_no {T : Tab} {n : Nat} (h : n < T.rts.length) (hr : declB T n = false) : declsB T = false := by
  unfold declsB
  rw [List.all_eq_false]
  exact ⟨n, by simpa using h, by simp [hr]⟩
theorem declsB_iff {T : Tab} : declsB T = true ↔ ∀ n, n < T.rts.length → declB T n = true := by
  unfold declsB
  simp only [List.all_eq_true, List.mem_range]
theorem checkE_bad {T : Tab} (h : (sizesB T && (ptsB T && routesB T)) = false) : checkE T = 260 := by unfold checkE; rw [if_pos h]
set_option maxRecDepth 100000 in
set_option maxHeartbeats 4000000 in
theorem check_any (v : Value) (T : Tab) (w : World) (hT : TabAt w v T) (hbig : ∀ r ∈ T.rts, r.pts.length ≤ 1000000) :
    Calls Tryz.prog 13 #[v] w fun e w' => e = .returned (.int .i64 (checkE T)) ∧ Below w.heap.size w w' := by
  have hT0 := hT
  obtain ⟨⟨vp, vr, rfl, hP, hr⟩, _, _⟩ := hT
  obtain ⟨a, c, C0, rfl, hlc, hcm, _⟩ := hr.at_
  obtain ⟨⟨va, vc, rfl, hvl, hvm, _⟩, _⟩ := id hP
  have HT := Lib.hid hT0; have HP := Lib.hid hP; have HR := Lib.hid hr; have HB := Lib.hid hbig
  clear hT0 hP hr hbig
  obtain ⟨w1, hw1⟩ : ∃ w1, w1 = w.alloc (.cells #[.int .i64 T.tracks, .slice va T.pts.length vc, .int .i64 T.sigs, .slice a T.rts.length c] 25) := ⟨_, rfl⟩
  have B1 : Hid (Below w.heap.size w w1) := by rw [hw1]; exact tb_alloc_below _ _
  have K1 : Hid (w1.heap[w.heap.size]? = some (.cells #[.int .i64 T.tracks, .slice va T.pts.length vc, .int .i64 T.sigs, .slice a T.rts.length c] 25 (0, 0))) := by rw [hw1]; exact heap_alloc_new _ _
  have HW1 := Lib.hid hw1
  clear hw1
  obtain ⟨E, hE⟩ : ∃ E, E = checkE T := ⟨_, rfl⟩
  rw [← hE]
  have HE0 : Hid (E = if (sizesB T && (ptsB T && routesB T)) = false then 260 else if declsB T = false then 261 else 0) := hE
  clear hE
  unfold maxLen at hvm hcm
  obtain ⟨sz, hsz⟩ : ∃ b, b = sizesB T := ⟨_, rfl⟩
  rw [← hsz] at HE0
  unfold sizesB at hsz
  have HS := Lib.hid hsz
  clear hsz
  generalize hlen : T.rts.length = m at *
  have HLEN := Lib.hid hlen
  clear hlen
  generalize hpl : T.pts.length = pl at *
  have HPL := Lib.hid hpl
  clear hpl
  go_enter Tryz.func13, Tryz.ntmps13
  go_upto_region 1 with fail
  rw [← HW1.out]
  have b1 := Lib.hid (Below.refl w1.heap.size w1)
  have c0 := cell_row (j := 0) (tb_kept K1.out (b1.out)) rfl
  have c1 := cell_row (j := 1) (tb_kept K1.out (b1.out)) rfl
  have c2 := cell_row (j := 2) (tb_kept K1.out (b1.out)) rfl
  have c3 := cell_row (j := 3) (tb_kept K1.out (b1.out)) rfl
  have l1 := heap_lt (tb_kept K1.out (b1.out))
  cases t1 : decide (T.tracks < 1)
  case true =>
    have HX : Hid (E = 260) := by show _ = _; rw [HE0.out, HS.out, t1]; rfl
    go_wp2_with fail
    go_ret
    exact ⟨congrArg (fun x => Ending.returned (.int .i64 x)) HX.out.symm, B1.out⟩
  case false =>
  rw [t1, Bool.not_false, Bool.true_and] at HS
  cases t2 : decide (24 < T.tracks)
  case true =>
    have HX : Hid (E = 260) := by show _ = _; rw [HE0.out, HS.out, t2]; rfl
    go_wp2_with fail
    go_ret
    exact ⟨congrArg (fun x => Ending.returned (.int .i64 x)) HX.out.symm, B1.out⟩
  case false =>
  rw [t2, Bool.not_false, Bool.true_and] at HS
  cases t3 : decide (12 < pl)
  case true =>
    have t3' : decide (12 < (pl : Int)) = true := by simp at t3 ⊢; omega
    have HX : Hid (E = 260) := by show _ = _; rw [HE0.out, HS.out, t3]; rfl
    go_wp2_with fail
    go_ret
    exact ⟨congrArg (fun x => Ending.returned (.int .i64 x)) HX.out.symm, B1.out⟩
  case false =>
  have t3' : decide (12 < (pl : Int)) = false := by simp at t3 ⊢; omega
  rw [t3, Bool.not_false, Bool.true_and] at HS
  cases t4 : decide (T.sigs < 1)
  case true =>
    have HX : Hid (E = 260) := by show _ = _; rw [HE0.out, HS.out, t4]; rfl
    go_wp2_with fail
    go_ret
    exact ⟨congrArg (fun x => Ending.returned (.int .i64 x)) HX.out.symm, B1.out⟩
  case false =>
  rw [t4, Bool.not_false, Bool.true_and] at HS
  cases t5 : decide (12 < T.sigs)
  case true =>
    have HX : Hid (E = 260) := by show _ = _; rw [HE0.out, HS.out, t5]; rfl
    go_wp2_with fail
    go_ret
    exact ⟨congrArg (fun x => Ending.returned (.int .i64 x)) HX.out.symm, B1.out⟩
  case false =>
  rw [t5, Bool.not_false, Bool.true_and] at HS
  cases t6 : decide (m < 1)
  case true =>
    have t6' : decide ((m : Int) < 1) = true := by simp at t6 ⊢; omega
    have HX : Hid (E = 260) := by show _ = _; rw [HE0.out, HS.out, t6]; rfl
    go_wp2_with fail
    go_ret
    exact ⟨congrArg (fun x => Ending.returned (.int .i64 x)) HX.out.symm, B1.out⟩
  case false =>
  have t6' : decide ((m : Int) < 1) = false := by simp at t6 ⊢; omega
  rw [t6, Bool.not_false, Bool.true_and] at HS
  cases t7 : decide (16 < m)
  case true =>
    have t7' : decide (16 < (m : Int)) = true := by simp at t7 ⊢; omega
    have HX : Hid (E = 260) := by show _ = _; rw [HE0.out, HS.out, t7]; rfl
    go_wp2_with fail
    go_ret
    exact ⟨congrArg (fun x => Ending.returned (.int .i64 x)) HX.out.symm, B1.out⟩
  case false =>
  have t7' : decide (16 < (m : Int)) = false := by simp at t7 ⊢; omega
  have HM : Hid (m ≤ 16) := by show m ≤ 16; simp at t7; omega
  rw [HS.out, t7, Bool.not_false, Bool.true_and] at HE0
  clear HS
  have HQ : Hid (Calls Tryz.prog 34 #[.slice va pl vc, .func (.func 35) #[] #[.pointer (some ⟨w.heap.size, 0, none⟩)]] w1 fun e w' => e = .returned (.bool (T.pts.any (outB T.tracks))) ∧ Below w1.heap.size w1 w') :=
    containsF_int _ T.pts _ _ (outB T.tracks) w1 (HP.out.below B1.out) (enters_of Tryz.func35 (by kernel_rfl) rfl)
      (fun i hi W hW => check1_any _ _ _ _ _ _ W (tb_kept K1.out hW))
  rw [show ptsB T = !T.pts.any (outB T.tracks) from rfl] at HE0
  go_upto_region 3 with fail
  generalize T.pts.any (outB T.tracks) = res at *
  cases res
  case true =>
    have HX : Hid (E = 260) := by show _ = _; rw [HE0.out]; rfl
    go_wp2_with fail
    refine HQ.out.mono ?_
    rintro e w2 ⟨rfl, hb⟩
    have b2 := Lib.hid (b1.out.trans (hb.mono b1.out.size))
    clear hb c0 c1 c2 c3 l1
    go_wp2_with fail
    go_ret
    exact ⟨congrArg (fun x => Ending.returned (.int .i64 x)) HX.out.symm, B1.out.trans (b2.out.mono B1.out.size)⟩
  case false =>
  rw [Bool.not_false, Bool.true_and] at HE0
  go_wp2_with fail
  refine HQ.out.mono ?_
  rintro e w2 ⟨rfl, hb⟩
  have b2 := Lib.hid (b1.out.trans (hb.mono b1.out.size))
  clear hb c0 c1 c2 c3 l1 HQ
  have c0 := cell_row (j := 0) (tb_kept K1.out (b2.out)) rfl
  have c1 := cell_row (j := 1) (tb_kept K1.out (b2.out)) rfl
  have c2 := cell_row (j := 2) (tb_kept K1.out (b2.out)) rfl
  have c3 := cell_row (j := 3) (tb_kept K1.out (b2.out)) rfl
  have l1 := heap_lt (tb_kept K1.out (b2.out))
  go_wp2_with fail
  clear c0 c1 c2 c3 l1
  go_loopw [49] (fun i wr => ∃ k : Nat, k ≤ m ∧ i = .int .i64 k ∧ (∀ n, n < k → routeB T n = true) ∧ Below w1.heap.size w1 wr) (fun i _ => m - (intOf i).toNat)
  case atStart => exact ⟨0, Nat.zero_le _, rfl, fun p hp => absurd hp (by omega), b2.out⟩
  case round =>
    obtain ⟨k, hk, rfl, hno, hb⟩ := hrel
    have NO := Lib.hid hno
    have b3 := Lib.hid hb
    clear hno hb
    obtain ⟨w3, rfl⟩ : ∃ w3 : World, w3 = wr := ⟨_, rfl⟩
    have c0 := cell_row (j := 0) (tb_kept K1.out (b3.out)) rfl
    have c1 := cell_row (j := 1) (tb_kept K1.out (b3.out)) rfl
    have c2 := cell_row (j := 2) (tb_kept K1.out (b3.out)) rfl
    have c3 := cell_row (j := 3) (tb_kept K1.out (b3.out)) rfl
    have l1 := heap_lt (tb_kept K1.out (b3.out))
    by_cases hlt : k < m
    · have HRT := Lib.hid (route_any _ T k w3 (HT.out.below (B1.out.trans (b3.out.mono B1.out.size))) (by rw [HLEN.out]; exact hlt) HB.out)
      cases hr : routeB T k
      case false =>
        have HX : Hid (E = 260) := by show _ = _; rw [HE0.out, routesB_no (by rw [HLEN.out]; exact hlt) hr]; rfl
        rw [hr] at HRT
        clear hr
        go_wp2_with fail
        (with_reducible refine HRT.out.mono ?_)
        rintro e w4 ⟨rfl, hb⟩
        have b4 := Lib.hid (b3.out.trans (hb.mono b3.out.size))
        clear hb c0 c1 c2 c3 l1
        go_wp2_with fail
        go_ret
        exact ⟨congrArg (fun x => Ending.returned (.int .i64 x)) HX.out.symm, B1.out.trans (b4.out.mono B1.out.size)⟩
      case true =>
        have HN : Hid (∀ n, n < k + 1 → routeB T n = true) := fun n hn => by
          by_cases e : n < k
          · exact NO.out n e
          · obtain rfl : n = k := by omega
            exact hr
        rw [hr] at HRT
        clear hr
        go_wp2_with fail
        (with_reducible refine HRT.out.mono ?_)
        rintro e w4 ⟨rfl, hb⟩
        have b4 := Lib.hid (b3.out.trans (hb.mono b3.out.size))
        clear hb c0 c1 c2 c3 l1
        go_wp2_with fail
        go_roundw
        case rel => exact ⟨k + 1, by omega, by go_num, HN.out, b4.out⟩
        case measure => simp [intOf]; omega
    · obtain rfl : k = m := by omega
      have HRS : Hid (routesB T = true) := routesB_iff.2 (fun n hn => NO.out n (by rw [← HLEN.out]; exact hn))
      rw [HRS.out] at HE0
      have HE1 : Hid (E = if declsB T = false then 261 else 0) := HE0.out
      clear HE0 HRS NO
      have HCO := Lib.hid (conflicts_any _ T w3 (HT.out.below (B1.out.trans (b3.out.mono B1.out.size))) (by rw [HLEN.out]; have := HM.out; omega))
      rw [HLEN.out] at HCO
      go_wp2_with fail
      refine HCO.out.mono ?_
      rintro e w4 ⟨⟨ob, V, rfl, hob, hrows⟩, hb⟩
      have b4 := Lib.hid (b3.out.trans (hb.mono b3.out.size))
      have RW := Lib.hid hrows
      clear hb c0 c1 c2 c3 l1 HCO hrows hob
      go_wp2_with fail
      go_loopw [60] (fun i wr => ∃ n : Nat, n ≤ k ∧ i = .int .i64 n ∧ (∀ j, j < n → declB T j = true) ∧ Below w4.heap.size w4 wr) (fun i _ => k - (intOf i).toNat)
      case atStart => exact ⟨0, Nat.zero_le _, rfl, fun p hp => absurd hp (by omega), Below.refl _ _⟩
      case round =>
        obtain ⟨n, hn, rfl, hno, hb⟩ := hrel
        have NO := Lib.hid hno
        have b45 := Lib.hid hb
        have b5 := Lib.hid (b4.out.trans (hb.mono b4.out.size))
        clear hno hb
        obtain ⟨w5, rfl⟩ : ∃ w5 : World, w5 = wr := ⟨_, rfl⟩
        by_cases hlt2 : n < k
        · have x0 : w5.cell? ⟨ob, n, none⟩ = some (V n) := by
            have h := RW.out.row.cell hlt2
            exact (b45.out.cell RW.out.row.lt).trans h
          obtain ⟨⟨la, lc, hvn, _⟩, _⟩ := RW.out.ints n hlt2
          have HIN := Lib.hid (RW.out.ints n hlt2)
          rw [hvn] at x0 HIN
          have lo : ob < w5.heap.size := Nat.lt_of_lt_of_le RW.out.row.lt b45.out.size
          obtain ⟨w6, hw6⟩ : ∃ w6, w6 = w5.alloc (.cells #[.int .i64 (n : Int)] 3) := ⟨_, rfl⟩
          have b56 : Hid (Below w5.heap.size w5 w6) := by rw [hw6]; exact tb_alloc_below _ _
          have K6 : Hid (w6.heap[w5.heap.size]? = some (.cells #[.int .i64 (n : Int)] 3 (0, 0))) := by rw [hw6]; exact heap_alloc_new _ _
          have HW6 := Lib.hid hw6
          have b6 := Lib.hid (b5.out.trans (b56.out.mono b5.out.size))
          have b46 := Lib.hid (b45.out.trans (b56.out.mono b45.out.size))
          have HQ : Hid (Calls Tryz.prog 34 #[.slice la (confL T n k).length lc, .func (.func 37) #[] #[.pointer (some ⟨w.heap.size, 0, none⟩), .pointer (some ⟨w5.heap.size, 0, none⟩)]] w6 fun e w' => e = .returned (.bool ((confL T n k).any (missB T n))) ∧ Below w6.heap.size w6 w') :=
            containsF_int _ (confL T n k) _ _ (missB T n) w6 (HIN.out.below b46.out) (enters_of Tryz.func37 (by kernel_rfl) rfl)
              (fun i hi W hW => check2_any _ T _ _ n _ _ W (by rw [HLEN.out]; omega) (HR.out.below (B1.out.trans ((b6.out.trans (hW.mono b6.out.size)).mono B1.out.size))) (tb_kept K1.out (b6.out.trans (hW.mono b6.out.size))) (tb_kept K6.out hW))
          have HD : Hid (declB T n = !(confL T n k).any (missB T n)) := by show _ = _; unfold declB; rw [HLEN.out]
          clear hw6 hvn
          go_upto_region 14 with fail
          rw [← HW6.out]
          clear x0
          obtain ⟨nb, hnb⟩ : ∃ b, b = w5.heap.size := ⟨_, rfl⟩
          rw [← hnb] at HQ ⊢
          clear hnb
          generalize (confL T n k).any (missB T n) = res at *
          cases res
          case true =>
            have HX : Hid (E = 261) := by show _ = _; rw [HE1.out, declsB_no (by rw [HLEN.out]; exact hlt2) HD.out]; rfl
            go_wp2_with fail
            refine HQ.out.mono ?_
            rintro e w7 ⟨rfl, hb⟩
            have b7 := Lib.hid (b6.out.trans (hb.mono b6.out.size))
            clear hb lo
            go_wp2_with fail
            go_ret
            exact ⟨congrArg (fun x => Ending.returned (.int .i64 x)) HX.out.symm, B1.out.trans (b7.out.mono B1.out.size)⟩
          case false =>
            have HN : Hid (∀ j, j < n + 1 → declB T j = true) := fun j hj => by
              by_cases e : j < n
              · exact NO.out j e
              · obtain rfl : j = n := by omega
                exact HD.out
            go_wp2_with fail
            refine HQ.out.mono ?_
            rintro e w7 ⟨rfl, hb⟩
            have b47 := Lib.hid (b46.out.trans (hb.mono b46.out.size))
            clear hb lo
            go_wp2_with fail
            go_roundw
            case rel => exact ⟨n + 1, by omega, by go_num, HN.out, b47.out⟩
            case measure => simp [intOf]; omega
        · obtain rfl : n = k := by omega
          have HX : Hid (E = 0) := by show _ = _; rw [HE1.out, declsB_iff.2 (fun j hj => NO.out j (by rw [← HLEN.out]; exact hj))]; rfl
          go_wp2_with fail
          go_ret
          exact ⟨congrArg (fun x => Ending.returned (.int .i64 x)) HX.out.symm, B1.out.trans (b5.out.mono B1.out.size)⟩
end Go.Proofs.YtpodedhnlicckaaGreatDoor
