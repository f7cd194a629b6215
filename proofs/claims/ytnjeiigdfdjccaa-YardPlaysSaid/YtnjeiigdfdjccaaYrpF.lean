/- The document's yard: a frame. -/
import Derived.Test.YtnjeiigdfdjccaaYrpAE
import Derived.Deep.RegionHeld3
import Derived.Deep.AppendLies
namespace Go.Proofs.Ytnjeiigdfdjccaa
open Go.RowKit
set_option linter.unusedVariables false
set_option linter.unusedSimpArgs false
def kdV (ms : List MV) (i : Nat) : Value := .int .u8 ((ms.getD i mv0).kd : Int)
def nnV (ms : List MV) (i : Nat) : Value := .int .i64 (ms.getD i mv0).n
theorem ord3_mid {T : Tab} {Y0 Y : YS} (h : MidY T Y0 Y) : Ord3 T Y.tn := fun n hn hi => (h.tn n hn).ord hi
set_option maxRecDepth 100000 in
set_option maxHeartbeats 16000000 in
theorem rframe_any (u : Rd) (Y : YS) (ub lb bs : Nat → Nat) (ms : List MV) (ka na : Option Addr) (kc nc : Nat) (w : World) (H : RdAt w u Y ub lb bs) (hc : checkE u.r.T = 0) (hT : TOk u.r.T) (htk : 0 ≤ u.r.T.tracks ∧ u.r.T.tracks ≤ 24) (hd : u.d ≤ 100) (hF : YFine u.r.T Y)
    (hk : SliceAt w ka ms.length (kdV ms)) (hn : SliceAt w na ms.length (nnV ms)) (hmo : ∀ k, k < ms.length → (ms.getD k mv0).kd < 256 ∧ i64ok (ms.getD k mv0).n)
    (hko : ∀ b off, ka = some ⟨b, off, none⟩ → ¬ AllR u Y ub lb bs b) (hno : ∀ b off, na = some ⟨b, off, none⟩ → ¬ AllR u Y ub lb bs b) (hlen : ms.length ≤ 1000) :
    Calls Try.prog 17 #[.pointer (some ⟨u.g, 0, none⟩), .slice ka ms.length kc, .slice na ms.length nc] w fun e w' =>
      (∃ ve, e = .returned (.tuple #[(frameY u.r.T u.d Y ms).L.val, ve]) ∧ IntsAt w' ve (intE (errsY u.r.T Y ms)) ∧ ∀ b o k c, ve = .slice (some ⟨b, o, none⟩) k c → w.heap.size ≤ b) ∧ RdP u Y ub lb bs w (frameY u.r.T u.d Y ms) w' := by
  have HY := Lib.hid H; have HC := Lib.hid hc; have HT := Lib.hid hT; have HTK := Lib.hid htk; have HFN := Lib.hid hF; have HK := Lib.hid hk; have HNS := Lib.hid hn; have HMO := Lib.hid hmo; have HD := Lib.hid hd; have HKO := Lib.hid hko; have HNO := Lib.hid hno
  obtain ⟨w1, hw1⟩ : ∃ w1, w1 = w.alloc (.cells #[.int .u32 0, .int .u32 0, .int .u32 0, .int .u32 0] 35) := ⟨_, rfl⟩
  have B1 : Hid (Below w.heap.size w w1) := by rw [hw1]; exact tb_alloc_below _ _
  have R1 : Hid (w1.heap[w.heap.size]? = some (.cells #[.int .u32 0, .int .u32 0, .int .u32 0, .int .u32 0] 35 (0, 0))) := by rw [hw1]; exact heap_alloc_new _ _
  have HW1 := Lib.hid hw1
  have T1 : Hid (RdAt w1 u { Y with tn := freshT Y.tn 0 } ub lb bs) := H.below B1.out
  have HN := Lib.hid hT.n; have HP := Lib.hid hT.p
  have hN := HN.out; have hP := HP.out
  have HZ : Hid (∀ b, AllR u Y ub lb bs b → b < w.heap.size) := fun b hb => H.all_lt hb
  have HZ2 : Hid (u.r.w0.heap.size ≤ w.heap.size ∧ u.r.g < w.heap.size) := ⟨H.au.bel.size, heap_lt H.au.obj⟩
  obtain ⟨rb, hrb⟩ : ∃ b, b = w.heap.size := ⟨_, rfl⟩
  have HRB := Lib.hid hrb
  have HRM : Hid (¬ AllR u Y ub lb bs rb) := fun h => by have := HZ.out _ h; have := HRB.out; omega
  have L1 : Hid (Only (AllR u Y ub lb bs) w w1) := Only.of_below _ B1.out
  clear hw1 H hc hT htk hF hk hn hmo hd hko hno
  obtain ⟨N, hN1⟩ : ∃ n, n = u.r.T.rts.length := ⟨_, rfl⟩
  have HNN := Lib.hid hN1
  obtain ⟨M, hM1⟩ : ∃ n, n = u.r.T.pts.length := ⟨_, rfl⟩
  have HMM := Lib.hid hM1
  rw [← hN1] at hN
  rw [← hM1] at hP
  clear hN1 hM1
  go_enter Try.func17, Try.ntmps17
  go_upto_region 1 with fail
  rw [← HW1.out, ← hrb]
  rw [← hrb] at R1
  clear hrb HW1
  go_wp2_with fail
  go_loopw [8] (fun i wr => ∃ k : Nat, k ≤ N ∧ i = .int .i64 k ∧ RdAt wr u { Y with tn := freshT Y.tn k } ub lb bs ∧ Only (AllR u Y ub lb bs) w wr ∧ wr.heap[rb]? = some (.cells #[.int .u32 0, .int .u32 0, .int .u32 0, .int .u32 0] 35 (0, 0))) (fun i _ => N - (intOf i).toNat)
  case atStart => exact ⟨0, Nat.zero_le _, rfl, T1.out, L1.out, R1.out⟩
  case round =>
    clear T1 R1 L1
    obtain ⟨k, hk, rfl, ht2, hl2, hr2⟩ := hrel
    have T2 := Lib.hid ht2; have L2 := Lib.hid hl2; have R2 := Lib.hid hr2
    clear ht2 hl2 hr2
    obtain ⟨w2, rfl⟩ : ∃ w2 : World, w2 = wr := ⟨_, rfl⟩
    have gM : w2.cell? ⟨u.g, 11, none⟩ = some (.slice (some ⟨u.mb, 0, none⟩) N N) := by rw [HNN.out]; exact cell_row (j := 11) T2.out.ob rfl
    have lg := heap_lt T2.out.ob
    by_cases hlt : k < N
    case pos =>
      have HLT : Hid (k < u.r.T.rts.length) := by rw [← HNN.out]; exact hlt
      have m1 := T2.out.mv.cell HLT.out
      have fm := T2.out.mv.frozen k
      have lm := T2.out.mv.lt
      have T3 : Hid (RdAt (w2.setCell ⟨u.mb, k, none⟩ (.bool false)) u { Y with tn := freshT Y.tn (k + 1) } ub lb bs) := by
        show RdAt _ _ _ _ _ _
        rw [freshT_succ]
        exact T2.out.setM k false
      have HOm : Hid (AllR u Y ub lb bs u.mb) := .inl (.inl (.inr (.inr (.inl rfl))))
      have L3 : Hid (Only (AllR u Y ub lb bs) w (w2.setCell ⟨u.mb, k, none⟩ (.bool false))) := L2.out.set _ _ (.inr HOm.out)
      have R3 : Hid ((w2.setCell ⟨u.mb, k, none⟩ (.bool false)).heap[rb]? = _) := (heap_setCell_other _ _ _ _ (fun (e : rb = u.mb) => HRM.out (by rw [e]; exact HOm.out))).trans R2.out
      go_wp2_with fail
      go_roundw
      case rel => exact ⟨k + 1, by omega, by go_num, T3.out, L3.out, R3.out⟩
      case measure => simp [intOf]; omega
    case neg =>
    obtain rfl : N = k := by omega
    have T3 : Hid (RdAt w2 u (freshY Y) ub lb bs) := T2.out.tn_congr (fun j hj => if_pos (by rw [HNN.out]; exact hj))
    clear T2 gM lg
    have gM : w2.cell? ⟨u.g, 11, none⟩ = some (.slice (some ⟨u.mb, 0, none⟩) N N) := by rw [HNN.out]; exact cell_row (j := 11) T3.out.ob rfl
    have lg := heap_lt T3.out.ob
    obtain ⟨w4, hw4⟩ : ∃ w4, w4 = w2.alloc (.cells #[.int .u32 0, .int .u32 0, .int .u32 0, .int .u32 0, .int .u32 0, .int .u32 0] 85) := ⟨_, rfl⟩
    have HW4 := Lib.hid hw4
    have B24 : Hid (Below w2.heap.size w2 w4) := by rw [hw4]; exact tb_alloc_below _ _
    have F4 : Hid (FeedAt w4 w2.heap.size fd00) := by rw [hw4]; exact heap_alloc_new _ _
    have T4 := Lib.hid (T3.out.below B24.out)
    have R4 := Lib.hid (tb_kept R2.out B24.out)
    have L4 : Hid (Only (AllR u Y ub lb bs) w w4) := L2.out.trans (Only.of_below _ B24.out)
    have HF4 : Hid (w.heap.size ≤ w2.heap.size ∧ rb < w2.heap.size ∧ w2.heap.size < w4.heap.size) := ⟨L2.out.size, heap_lt R2.out, heap_lt F4.out⟩
    go_upto_region 6 with fail
    rw [← HW4.out]
    clear HW4 hw4 T3 R2 L2 B24 gM lg
    obtain ⟨fb, hfb⟩ : ∃ b, b = w2.heap.size := ⟨_, rfl⟩
    rw [← hfb] at F4 HF4 ⊢
    clear hfb
    obtain ⟨i0, hi, hz0, hz1, hz2⟩ := tb_info infoI
    have HIn := Lib.hid hi; have HZ0 := Lib.hid hz0; have HZ1 := Lib.hid hz1; have HZ_2 := Lib.hid hz2
    clear hi hz0 hz1 hz2
    obtain ⟨C, hC⟩ : ∃ c, c = w4.heap.size := ⟨_, rfl⟩
    have HCO : Hid (FC.Ok (⟨u, Y, ub, lb, bs, w, rb, fb, C⟩ : FC)) := by
      have h1 := HZ2.out; have h2 := HRB.out; have h3 := HF4.out
      exact ⟨h1.1, h1.2, by show w.heap.size ≤ rb; omega, by show w.heap.size ≤ fb; omega, by show rb ≠ fb; omega, by show rb < C; omega, by show fb < C; omega⟩
    have I4 : Hid (FrI (⟨u, Y, ub, lb, bs, w, rb, fb, C⟩ : FC) (movesY u.r.T (freshY Y) (ms.take 0)) (movesF u.r.T (freshY Y) fd00 (ms.take 0)) (.slice none 0 0) 0 (intsV (intE (movesE u.r.T (freshY Y) (ms.take 0)))) ub lb bs w4) :=
      ⟨T4.out, L4.out, fun b hb => .inl hb, F4.out, R4.out, ⟨rfl, .inl ⟨rfl, rfl⟩⟩, by show C ≤ _; omega, fun h => by have h1 := HZ.out _ h; have h2 := HF4.out; change fb < _ at h1; omega, fun h => HRM.out h, fun g hg => by cases hg⟩
    clear T4 L4 F4 R4 hC
    go_wp2_with fail
    go_loopw [11, 10] (fun i sv wr => ∃ (k : Nat) (ve : Value) (ub' lb' bs' : Nat → Nat), k ≤ ms.length ∧ i = .int .i64 k ∧ ve = sv ∧ FrI (⟨u, Y, ub, lb, bs, w, rb, fb, C⟩ : FC) (movesY u.r.T (freshY Y) (ms.take k)) (movesF u.r.T (freshY Y) fd00 (ms.take k)) ve k (intsV (intE (movesE u.r.T (freshY Y) (ms.take k)))) ub' lb' bs' wr) (fun i _ _ => ms.length - (intOf i).toNat)
    case atStart => exact ⟨0, _, ub, lb, bs, Nat.zero_le _, rfl, rfl, I4.out⟩
    case round =>
      clear I4
      obtain ⟨k, ve, u5, l5, b5, hk, rfl, rfl, hi5⟩ := hrel
      have I5 := Lib.hid hi5
      clear hi5
      obtain ⟨w5, rfl⟩ : ∃ w5 : World, w5 = wr := ⟨_, rfl⟩
      by_cases hlt : k < ms.length
      case pos =>
        have HLT := Lib.hid hlt
        have HZK : 0 < ms.length := Nat.lt_of_le_of_lt (Nat.zero_le _) hlt
        obtain ⟨kb, ko, rfl, hkb, hkx⟩ := HK.out.at HZK
        obtain ⟨nb, no, rfl, hnb, hnx⟩ := HNS.out.at HZK
        obtain ⟨kd, hkd⟩ : ∃ x, x = (ms.getD k mv0).kd := ⟨_, rfl⟩
        obtain ⟨z, hz⟩ : ∃ x, x = (ms.getD k mv0).n := ⟨_, rfl⟩
        have x0 : w.cell? ⟨kb, ko + k, none⟩ = some (.int .u8 (kd : Int)) := by rw [hkd]; exact hkx k hlt
        have x1 : w.cell? ⟨nb, no + k, none⟩ = some (.int .i64 z) := by rw [hz]; exact hnx k hlt
        have HSX : Hid (∀ W, Only (AllR u Y ub lb bs) w W → W.cell? ⟨kb, ko + k, none⟩ = some (.int .u8 (kd : Int)) ∧ W.cell? ⟨nb, no + k, none⟩ = some (.int .i64 z)) := fun W ho => by
          have h1 := ho.block kb hkb (HKO.out kb ko rfl)
          have h2 := ho.block nb hnb (HNO.out nb no rfl)
          rw [← x0, ← x1]
          exact ⟨by simp [World.cell?, h1], by simp [World.cell?, h2]⟩
        have lkb : kb < w5.heap.size := Nat.lt_of_lt_of_le hkb I5.out.on.size
        have lnb : nb < w5.heap.size := Nat.lt_of_lt_of_le hnb I5.out.on.size
        have HKZ : Hid (ms.getD k mv0 = ⟨kd, z⟩) := by rw [hkd, hz]; rfl
        have HOK := HMO.out k hlt
        rw [← hkd, ← hz] at HOK
        have HOK := Lib.hid HOK
        have HTS := Lib.hid (take_snoc mv0 hlt)
        rw [HKZ.out] at HTS
        clear hkd hz HKZ hkx hnx x0 x1 hkb hnb
        have MID := Lib.hid (mid_moves (fun n hn => (HT.out.tl n hn).1) HFN.out.inv (ms.take k) _ (mid_fresh HFN.out.inv))
        have HDO := Lib.hid (fun W (hW : FrI (⟨u, Y, ub, lb, bs, w, rb, fb, C⟩ : FC) (movesY u.r.T (freshY Y) (ms.take k)) (movesF u.r.T (freshY Y) fd00 (ms.take k)) ve k (intsV (intE (movesE u.r.T (freshY Y) (ms.take k)))) u5 l5 b5 W) =>
          rdoes_any u (movesY u.r.T (freshY Y) (ms.take k)) u5 l5 b5 (movesF u.r.T (freshY Y) fd00 (ms.take k)) fb kd z W hW.at_ hW.fd (hW.off HCO.out) HT.out (ord3_mid MID.out) (by rw [MID.out.L]; exact (HFN.out.inv.lok HT.out).pr) (movesF_ok HT.out _ _ _ fd00_ok).ok HOK.out.1 HOK.out.2)
        rw [← movesY_snoc, ← movesF_snoc, ← HTS.out] at HDO
        have HES := Lib.hid (movesE_snoc u.r.T ⟨kd, z⟩ (ms.take k) (freshY Y))
        rw [← HTS.out] at HES
        generalize ansN u.r.T (movesY u.r.T (freshY Y) (ms.take k)) ⟨kd, z⟩ = q at *
        obtain ⟨va, vc, rfl⟩ := own_slice0 I5.out.own
        have ID := Lib.hid (I5.out.below (W' := w5.drew) ⟨rfl, rfl, rfl, Nat.le_refl _, fun _ _ => rfl⟩)
        go_upto_region 10 with fail
        go_region_held3 (fun V => V.cell? ⟨kb, ko + k, none⟩ = some (.int .u8 (kd : Int)) ∧ V.cell? ⟨nb, no + k, none⟩ = some (.int .i64 z))
          (first | exact HSX.out _ ID.out.on | exact HSX.out _ I7.out.on | exact HSX.out _ (I7.out.on.alloc _) | exact HSX.out _ I8.out.on)
          (first
            | (go_at_call 36; (with_reducible refine (HDO.out w5.drew ID.out).mono ?_); rintro e w7 ⟨rfl, hk7⟩;
               obtain ⟨u7, l7, b7, hi7⟩ := FrI.rdf HCO.out ID.out hk7; have I7 := Lib.hid hi7; clear hk7 hi7)
            | (refine step_append_lies _ (by rfl) _ _ _ (by rfl) C 3 i0 (.int .i64 0) 1 8 Try.underlying22 HIn.out HZ0.out HZ1.out HZ_2.out rfl (by omega) _ k (intsV (intE (movesE u.r.T (freshY Y) (ms.take k)))) (by rfl) (I7.out.own.alloc _) ⟨w7.heap.size, 0, none⟩ 1 1 [.int .i64 (q : Int)] (by rfl) (by rfl) (cell_one_new _ _ _) (by simp [Value.oneCell']) (by omega) (by unfold maxLen; omega) (by omega) (by have h : C ≤ w7.heap.size := I7.out.C; simp; omega) (w7.heap.size + 1) (by simp) ?_;
               intro gg cap w8 hown8 hgrow hat hlt8;
               have I8 := Lib.hid (FrI.row HCO.out I7.out hown8 hgrow (by rcases hat with h | h; (· exact .inl h.symm); (· exact .inr (by rw [h]; simp; rfl))))))
        rename_i hheld
        have I9 := I8.out
        rw [← intsV_snoc, ← intE_snoc, ← HES.out] at I9
        have I9 := Lib.hid I9
        clear hheld I8 hown8 hgrow hat hlt8 HSX HDO lkb lnb
        go_wp2_with fail
        go_roundw
        case rel => exact ⟨k + 1, _, u7, l7, b7, by omega, by go_num, rfl, I9.out⟩
        case measure => simp [intOf]; omega
      case neg =>
      obtain rfl : ms.length = k := by omega
      rw [List.take_of_length_le (Nat.le_refl _)] at I5
      obtain ⟨Z, hZ⟩ : ∃ Z, Z = movesY u.r.T (freshY Y) ms := ⟨_, rfl⟩
      obtain ⟨G, hG⟩ : ∃ Z, Z = movesF u.r.T (freshY Y) fd00 ms := ⟨_, rfl⟩
      rw [← hZ, ← hG] at I5
      have MID : Hid (MidY u.r.T Y Z) := by rw [hZ]; exact mid_moves (fun n hn => (HT.out.tl n hn).1) HFN.out.inv ms _ (mid_fresh HFN.out.inv)
      have HFE : Hid (feedY u.r.T Y ms = feedsF u.r.T (tickY Z) G) := by rw [hZ, hG]; rfl
      have HFR : Hid (frameY u.r.T u.d Y ms = turnY u.r.T u.d (feedY u.r.T Y ms) (tickY Z)) := by rw [hZ]; rfl
      have HGO : Hid (FdOk G) := by rw [hG]; exact movesF_ok HT.out ms _ _ fd00_ok
      have HER : Hid (errsY u.r.T Y ms = movesE u.r.T (freshY Y) ms) := rfl
      rw [← HER.out] at I5
      clear hZ hG HER
      obtain ⟨tk, htk⟩ := Int.eq_ofNat_of_zero_le HTK.out.1
      have HTE := Lib.hid htk
      have htk24 : tk ≤ 24 := by have := HTK.out.2; omega
      clear htk
      have HCN : Hid (∀ k, k < tk → clearB u.r.T Z.tn (k : Int) = (onN u.r.T Z.tn (k : Int) u.r.T.rts.length == 0)) := fun k hk => by
        unfold clearB
        rw [decide_eq_true (show (0 : Int) ≤ (k : Int) by omega), decide_eq_true (show (k : Int) < u.r.T.tracks by rw [HTE.out]; omega), Bool.true_and, Bool.true_and]
      have I50 : Hid (FrI (⟨u, Y, ub, lb, bs, w, rb, fb, C⟩ : FC) Z { G with cl := clN u.r.T Z.tn 0 } ve ms.length (intsV (intE (errsY u.r.T Y ms))) u5 l5 b5 w5) := by
        have e : ({ G with cl := clN u.r.T Z.tn 0 } : FD) = G := by
          have := HGO.out.cl
          show (⟨0, G.no, G.re, G.ak, G.ca, G.rq⟩ : FD) = G
          rw [← this]
        show FrI _ _ _ _ _ _ _ _ _ _
        rw [e]; exact I5.out
      clear I5
      go_wp2_with fail
      go_loopw [12] (fun i wr => ∃ (k : Nat) (ub' lb' bs' : Nat → Nat), k ≤ tk ∧ i = .int .i64 k ∧ FrI (⟨u, Y, ub, lb, bs, w, rb, fb, C⟩ : FC) Z { G with cl := clN u.r.T Z.tn k } ve ms.length (intsV (intE (errsY u.r.T Y ms))) ub' lb' bs' wr) (fun i _ => tk - (intOf i).toNat)
      case atStart => exact ⟨0, u5, l5, b5, Nat.zero_le _, rfl, I50.out⟩
      case round =>
        clear I50
        obtain ⟨k, u6, l6, b6, hk, rfl, hi6⟩ := hrel
        have I6 := Lib.hid hi6
        clear hi6
        obtain ⟨w6, rfl⟩ : ∃ w6 : World, w6 = wr := ⟨_, rfl⟩
        have g0 : w6.cell? ⟨u.g, 0, none⟩ = some (.int .i64 (tk : Int)) := by rw [← HTE.out]; exact cell_row (j := 0) I6.out.at_.ob rfl
        have lg : u.g < w6.heap.size := heap_lt I6.out.at_.ob
        by_cases hlt : k < tk
        case pos =>
          have HCL := Lib.hid (rclear_any u Z u6 l6 b6 (k : Int) w6 I6.out.at_ HN.out (ord3_mid MID.out))
          rw [← HCN.out k hlt] at HCL
          have HCS : Hid (clN u.r.T Z.tn (k + 1) = if clearB u.r.T Z.tn (k : Int) then clN u.r.T Z.tn k + 2 ^ k else clN u.r.T Z.tn k) := by
            show _ = _
            split
            · rename_i h; exact clN_add h
            · rename_i h; exact if_neg h
          generalize clearB u.r.T Z.tn (k : Int) = b at *
          go_wp2_with fail
          refine HCL.out.mono ?_
          rintro e w7 ⟨rfl, hb7⟩
          have I7 := Lib.hid (I6.out.below hb7)
          clear hb7 HCL I6 g0 lg
          cases b
          case false =>
            have HCS2 : Hid (clN u.r.T Z.tn (k + 1) = clN u.r.T Z.tn k) := HCS.out
            go_wp2_with fail
            go_roundw
            case rel => exact ⟨k + 1, u6, l6, b6, by omega, by go_num, by rw [HCS2.out]; exact I7.out⟩
            case measure => simp [intOf]; omega
          case true =>
            have HCS2 : Hid (clN u.r.T Z.tn (k + 1) = clN u.r.T Z.tn k + 2 ^ k) := HCS.out
            have f0 : w7.cell? ⟨fb, 0, none⟩ = some (.int .u32 (clN u.r.T Z.tn k : Int)) := cell_row (j := 0) I7.out.fd rfl
            have ff0 : w7.frozen? ⟨fb, 0, none⟩ = false := frozen_of_row _ _ _ _ _ I7.out.fd
            have lf : fb < w7.heap.size := heap_lt I7.out.fd
            have HSB : Hid ((((clN u.r.T Z.tn k : Nat) : Int) + 2 ^ k) % 4294967296 = ((clN u.r.T Z.tn k + 2 ^ k : Nat) : Int)) := sum_bit (clN_lt u.r.T Z.tn k) (by omega)
            have HFS := Lib.hid (fun v hv => FrI.fset (f' := { G with cl := clN u.r.T Z.tn (k + 1) }) (j := 0) (v := v) HCO.out I7.out hv)
            have HFD := Lib.hid (I7.out.fd)
            rw [HCS2.out] at HFS
            generalize clN u.r.T Z.tn k = x at *
            go_upto_region 15 with fail
            go_region
            rw [HSB.out]
            obtain ⟨u8, l8, b8, hi8⟩ := HFS.out _ (heap_setCell_same w7 fb 0 _ _ (.int .u32 ((x + 2 ^ k : Nat) : Int)) HFD.out)
            have I8 := Lib.hid (hi8.below (W' := (w7.setCell ⟨fb, 0, none⟩ (.int .u32 ((x + 2 ^ k : Nat) : Int))).drew) ⟨rfl, rfl, rfl, Nat.le_refl _, fun _ _ => rfl⟩)
            clear hi8 HFS
            generalize (w7.setCell ⟨fb, 0, none⟩ (.int .u32 ((x + 2 ^ k : Nat) : Int))).drew = w8 at *
            clear f0 ff0 lf
            go_wp2_with fail
            go_roundw
            case rel => exact ⟨k + 1, u8, l8, b8, by omega, by go_num, by rw [HCS2.out]; exact I8.out⟩
            case measure => simp [intOf]; omega
        case neg =>
        obtain rfl : tk = k := by omega
        obtain ⟨F, hF⟩ : ∃ F : FD, F = { G with cl := clN u.r.T Z.tn tk } := ⟨_, rfl⟩
        have HFF : Hid (feedsF u.r.T (tickY Z) G = { F with no := fnN (tickY Z).pn M, re := frN (tickY Z).pn M }) := by
          show _ = _
          rw [hF, HMM.out]
          unfold feedsF
          rw [HTE.out]; rfl
        have HF0 : Hid (F.no = 0 ∧ F.re = 0) := by rw [hF]; exact ⟨HGO.out.no, HGO.out.re⟩
        have I60 : Hid (FrI (⟨u, Y, ub, lb, bs, w, rb, fb, C⟩ : FC) { Z with pn := tickP Z.pn 0 } { F with no := fnN (tickY Z).pn 0, re := frN (tickY Z).pn 0 } ve ms.length (intsV (intE (errsY u.r.T Y ms))) u6 l6 b6 w6) := by
          have e : ({ F with no := fnN (tickY Z).pn 0, re := frN (tickY Z).pn 0 } : FD) = F := by
            have h1 := HF0.out.1; have h2 := HF0.out.2
            show (⟨F.cl, 0, 0, F.ak, F.ca, F.rq⟩ : FD) = F
            rw [← h1]
            conv => lhs; rw [show F.no = F.re by rw [h1, h2]]
            rw [show F.re = F.no by rw [h1, h2]]
            cases F; dsimp only at h1 h2; subst h1; subst h2; rfl
          show FrI _ _ _ _ _ _ _ _ _ _
          rw [e, hF]; exact I6.out
        clear hF
        go_wp2_with fail
        clear I6 g0 lg
        go_loopw [13] (fun i wr => ∃ (k : Nat) (ub' lb' bs' : Nat → Nat), k ≤ M ∧ i = .int .i64 k ∧ FrI (⟨u, Y, ub, lb, bs, w, rb, fb, C⟩ : FC) { Z with pn := tickP Z.pn k } { F with no := fnN (tickY Z).pn k, re := frN (tickY Z).pn k } ve ms.length (intsV (intE (errsY u.r.T Y ms))) ub' lb' bs' wr) (fun i _ => M - (intOf i).toNat)
        case atStart => exact ⟨0, u6, l6, b6, Nat.zero_le _, rfl, I60.out⟩
        case round =>
          clear I60
          obtain ⟨k, u6, l6, b6, hk, rfl, hi6⟩ := hrel
          have I6 := Lib.hid hi6
          clear hi6
          obtain ⟨w6, rfl⟩ : ∃ w6 : World, w6 = wr := ⟨_, rfl⟩
          have gB : w6.cell? ⟨u.g, 12, none⟩ = some (.slice (some ⟨u.tb, 0, none⟩) M M) := by rw [HMM.out]; exact cell_row (j := 12) I6.out.at_.ob rfl
          have lg : u.g < w6.heap.size := heap_lt I6.out.at_.ob
          by_cases hlt : k < M
          case pos =>
            have HLT : Hid (k < u.r.T.pts.length) := by rw [← HMM.out]; exact hlt
            have HFN1 : Hid (fnN (tickY Z).pn (k + 1) = if stillB ⟨(Z.pn k).sd, (Z.pn k).lf - 1, (Z.pn k).br⟩ && (Z.pn k).sd == 1 then fnN (tickY Z).pn k + 2 ^ k else fnN (tickY Z).pn k) := by
              show _ = _
              split
              · rename_i h; exact fnN_add h
              · rename_i h; exact if_neg h
            have HFR1 : Hid (frN (tickY Z).pn (k + 1) = if stillB ⟨(Z.pn k).sd, (Z.pn k).lf - 1, (Z.pn k).br⟩ && (Z.pn k).sd != 1 then frN (tickY Z).pn k + 2 ^ k else frN (tickY Z).pn k) := by
              show _ = _
              split
              · rename_i h; exact frN_add h
              · rename_i h; exact if_neg h
            have HSB1 : Hid ((((fnN (tickY Z).pn k : Nat) : Int) + 2 ^ k) % 4294967296 = ((fnN (tickY Z).pn k + 2 ^ k : Nat) : Int)) := sum_bit (fnN_lt _ k) (by omega)
            have HSB2 : Hid ((((frN (tickY Z).pn k : Nat) : Int) + 2 ^ k) % 4294967296 = ((frN (tickY Z).pn k + 2 ^ k : Nat) : Int)) := sum_bit (frN_lt _ k) (by omega)
            have HTS : Hid (∀ q : PN, q = { (Z.pn k) with lf := (Z.pn k).lf - 1 } → tickP Z.pn (k + 1) = fun j => if j = k then q else tickP Z.pn k j) := fun q hq => by rw [hq]; exact tickP_succ _ _
            have HTA : Hid (tickP Z.pn k k = Z.pn k) := tickP_at _ _
            have HSD : Hid ((Z.pn k).sd = 1 ∨ (Z.pn k).sd = 2) := by rw [show (Z.pn k).sd = (Y.pn k).sd from (MID.out.pn k).1]; exact HFN.out.inv.t12 k
            have HLF := Lib.hid (lf_mid MID.out HFN.out.lf k)
            have hLF := HLF.out
            have hsd := HSD.out
            generalize fnN (tickY Z).pn k = fn at *
            generalize frN (tickY Z).pn k = fr at *
            obtain ⟨fn1, hfn1⟩ : ∃ x, x = fnN (tickY Z).pn (k + 1) := ⟨_, rfl⟩
            obtain ⟨fr1, hfr1⟩ : ∃ x, x = frN (tickY Z).pn (k + 1) := ⟨_, rfl⟩
            have HG1 := Lib.hid hfn1; have HG2 := Lib.hid hfr1
            rw [← hfn1] at HFN1
            rw [← hfr1] at HFR1
            clear hfn1 hfr1
            have s0 : w6.cell? ⟨u.tb, k, none⟩ = some (.int .i64 ((Z.pn k).sd : Int)) := by have := I6.out.at_.sd.cell HLT.out; rw [show (({ Z with pn := tickP Z.pn k } : YS).pn k) = Z.pn k from HTA.out] at this; exact this
            have s1 : w6.cell? ⟨u.lb, k, none⟩ = some (.int .i64 ((Z.pn k).lf : Int)) := by have := I6.out.at_.lf.cell HLT.out; rw [show (({ Z with pn := tickP Z.pn k } : YS).pn k) = Z.pn k from HTA.out] at this; exact this
            have s2 : w6.cell? ⟨u.bb, k, none⟩ = some (.bool (Z.pn k).br) := by have := I6.out.at_.br.cell HLT.out; rw [show (({ Z with pn := tickP Z.pn k } : YS).pn k) = Z.pn k from HTA.out] at this; exact this
            generalize Z.pn k = p at *
            obtain ⟨sd, lf, br⟩ := p
            dsimp only at s0 s1 s2 hLF hsd
            have gL : w6.cell? ⟨u.g, 13, none⟩ = some (.slice (some ⟨u.lb, 0, none⟩) M M) := by rw [HMM.out]; exact cell_row (j := 13) I6.out.at_.ob rfl
            have HTX : Hid (tickP Z.pn (k + 1) k = ⟨sd, lf - 1, br⟩) := by show _ = _; rw [HTS.out _ rfl]; exact if_pos rfl
            by_cases h0 : lf = 0
            case pos =>
              subst h0
              have I7 : Hid (FrI (⟨u, Y, ub, lb, bs, w, rb, fb, C⟩ : FC) { Z with pn := tickP Z.pn (k + 1) } { F with no := fn, re := fr } ve ms.length (intsV (intE (errsY u.r.T Y ms))) u6 l6 b6 w6) := by
                have e : tickP Z.pn (k + 1) = tickP Z.pn k := by
                  rw [HTS.out _ rfl]; funext j
                  by_cases ej : j = k
                  · rw [if_pos ej, ej, HTA.out]; rfl
                  · rw [if_neg ej]
                show FrI _ _ _ _ _ _ _ _ _ _
                rw [e]; exact I6.out
              clear I6 s0 s1 s2 gB gL lg
              have gB : w6.cell? ⟨u.g, 12, none⟩ = some (.slice (some ⟨u.tb, 0, none⟩) M M) := by rw [HMM.out]; exact cell_row (j := 12) I7.out.at_.ob rfl
              have gL : w6.cell? ⟨u.g, 13, none⟩ = some (.slice (some ⟨u.lb, 0, none⟩) M M) := by rw [HMM.out]; exact cell_row (j := 13) I7.out.at_.ob rfl
              have gK : w6.cell? ⟨u.g, 14, none⟩ = some (.slice (some ⟨u.bb, 0, none⟩) M M) := by rw [HMM.out]; exact cell_row (j := 14) I7.out.at_.ob rfl
              have lg : u.g < w6.heap.size := heap_lt I7.out.at_.ob
              have s0 : w6.cell? ⟨u.tb, k, none⟩ = some (.int .i64 (sd : Int)) := by have := I7.out.at_.sd.cell HLT.out; rw [show (({ Z with pn := tickP Z.pn (k + 1) } : YS).pn k) = _ from HTX.out] at this; exact this
              have s1 : w6.cell? ⟨u.lb, k, none⟩ = some (.int .i64 0) := by have := I7.out.at_.lf.cell HLT.out; rw [show (({ Z with pn := tickP Z.pn (k + 1) } : YS).pn k) = _ from HTX.out] at this; exact this
              have s2 : w6.cell? ⟨u.bb, k, none⟩ = some (.bool br) := by have := I7.out.at_.br.cell HLT.out; rw [show (({ Z with pn := tickP Z.pn (k + 1) } : YS).pn k) = _ from HTX.out] at this; exact this
              have l0 := I7.out.at_.sd.lt; have l1 := I7.out.at_.lf.lt; have l2 := I7.out.at_.br.lt
              cases br
              case true =>
                have e1 : Hid (fn1 = fn) := HFN1.out
                have e2 : Hid (fr1 = fr) := HFR1.out
                go_wp2_with fail
                go_roundw
                case rel => exact ⟨k + 1, u6, l6, b6, by omega, by go_num, by rw [← HG1.out, ← HG2.out, e1.out, e2.out]; exact I7.out⟩
                case measure => simp [intOf]; omega
              case false =>
              rcases hsd with rfl | rfl
              case inl =>
                have e1 : Hid (fn1 = fn + 2 ^ k) := HFN1.out
                have e2 : Hid (fr1 = fr) := HFR1.out
                have f0 : w6.cell? ⟨fb, 1, none⟩ = some (.int .u32 (fn : Int)) := cell_row (j := 1) I7.out.fd rfl
                have ff0 : w6.frozen? ⟨fb, 1, none⟩ = false := frozen_of_row _ _ _ _ _ I7.out.fd
                have lf0 : fb < w6.heap.size := heap_lt I7.out.fd
                go_upto_region 22 with fail
                go_region
                rw [HSB1.out]
                obtain ⟨u8, l8, b8, hi8⟩ := FrI.fset (f' := { F with no := fn + 2 ^ k, re := fr }) HCO.out I7.out (heap_setCell_same w6 fb 1 _ _ (.int .u32 ((fn + 2 ^ k : Nat) : Int)) I7.out.fd)
                have I8 := Lib.hid (hi8.below (W' := (w6.setCell ⟨fb, 1, none⟩ (.int .u32 ((fn + 2 ^ k : Nat) : Int))).drew) ⟨rfl, rfl, rfl, Nat.le_refl _, fun _ _ => rfl⟩)
                generalize (w6.setCell ⟨fb, 1, none⟩ (.int .u32 ((fn + 2 ^ k : Nat) : Int))).drew = w8 at *
                clear hi8 f0 ff0 lf0 gB gL gK s0 s1 s2 l0 l1 l2 lg
                have gB : w8.cell? ⟨u.g, 12, none⟩ = some (.slice (some ⟨u.tb, 0, none⟩) M M) := by rw [HMM.out]; exact cell_row (j := 12) I8.out.at_.ob rfl
                have gL : w8.cell? ⟨u.g, 13, none⟩ = some (.slice (some ⟨u.lb, 0, none⟩) M M) := by rw [HMM.out]; exact cell_row (j := 13) I8.out.at_.ob rfl
                have gK : w8.cell? ⟨u.g, 14, none⟩ = some (.slice (some ⟨u.bb, 0, none⟩) M M) := by rw [HMM.out]; exact cell_row (j := 14) I8.out.at_.ob rfl
                have lg : u.g < w8.heap.size := heap_lt I8.out.at_.ob
                have s0 : w8.cell? ⟨u.tb, k, none⟩ = some (.int .i64 (1 : Int)) := by have := I8.out.at_.sd.cell HLT.out; rw [show (({ Z with pn := tickP Z.pn (k + 1) } : YS).pn k) = _ from HTX.out] at this; exact this
                have s1 : w8.cell? ⟨u.lb, k, none⟩ = some (.int .i64 0) := by have := I8.out.at_.lf.cell HLT.out; rw [show (({ Z with pn := tickP Z.pn (k + 1) } : YS).pn k) = _ from HTX.out] at this; exact this
                have s2 : w8.cell? ⟨u.bb, k, none⟩ = some (.bool false) := by have := I8.out.at_.br.cell HLT.out; rw [show (({ Z with pn := tickP Z.pn (k + 1) } : YS).pn k) = _ from HTX.out] at this; exact this
                have l0 := I8.out.at_.sd.lt; have l1 := I8.out.at_.lf.lt; have l2 := I8.out.at_.br.lt
                go_wp2_with fail
                go_roundw
                case rel => exact ⟨k + 1, u8, l8, b8, by omega, by go_num, by rw [← HG1.out, ← HG2.out, e1.out, e2.out]; exact I8.out⟩
                case measure => simp [intOf]; omega
              case inr =>
                have e1 : Hid (fn1 = fn) := HFN1.out
                have e2 : Hid (fr1 = fr + 2 ^ k) := HFR1.out
                have f0 : w6.cell? ⟨fb, 2, none⟩ = some (.int .u32 (fr : Int)) := cell_row (j := 2) I7.out.fd rfl
                have ff0 : w6.frozen? ⟨fb, 2, none⟩ = false := frozen_of_row _ _ _ _ _ I7.out.fd
                have lf0 : fb < w6.heap.size := heap_lt I7.out.fd
                go_upto_region 24 with fail
                go_region
                rw [HSB2.out]
                obtain ⟨u8, l8, b8, hi8⟩ := FrI.fset (f' := { F with no := fn, re := fr + 2 ^ k }) HCO.out I7.out (heap_setCell_same w6 fb 2 _ _ (.int .u32 ((fr + 2 ^ k : Nat) : Int)) I7.out.fd)
                have I8 := Lib.hid (hi8.below (W' := (w6.setCell ⟨fb, 2, none⟩ (.int .u32 ((fr + 2 ^ k : Nat) : Int))).drew) ⟨rfl, rfl, rfl, Nat.le_refl _, fun _ _ => rfl⟩)
                generalize (w6.setCell ⟨fb, 2, none⟩ (.int .u32 ((fr + 2 ^ k : Nat) : Int))).drew = w8 at *
                clear hi8 f0 ff0 lf0 gB gL gK s0 s1 s2 l0 l1 l2 lg
                go_wp2_with fail
                go_roundw
                case rel => exact ⟨k + 1, u8, l8, b8, by omega, by go_num, by rw [← HG1.out, ← HG2.out, e1.out, e2.out]; exact I8.out⟩
                case measure => simp [intOf]; omega
            case neg =>
            obtain ⟨m, rfl⟩ : ∃ m, lf = m + 1 := ⟨lf - 1, by omega⟩
            have hm1 : (((m + 1 : Nat) : Int) - 1) = (m : Int) := by omega
            have d1 : decide ((0 : Int) < ((m + 1 : Nat) : Int)) = true := decide_eq_true (by omega)
            have HPT := Lib.hid (FrI.rdp HCO.out I6.out (RdAt.pt (I6.out.at_.setL k { (tickP Z.pn k k) with lf := m } rfl rfl) (.inr (.inr (.inr (.inr (.inl rfl)))))))
            have HSE : Hid ((YS.setP { Z with pn := tickP Z.pn k } k { (tickP Z.pn k k) with lf := m }) = { Z with pn := tickP Z.pn (k + 1) }) := by
              show _ = _
              rw [HTS.out _ rfl, HTA.out]; rfl
            rw [HSE.out] at HPT
            obtain ⟨u7, l7, b7, hi7⟩ := HPT.out
            have I7 := Lib.hid (hi7.below (W' := (w6.setCell ⟨u.lb, k, none⟩ (.int .i64 (m : Int))).drew) ⟨rfl, rfl, rfl, Nat.le_refl _, fun _ _ => rfl⟩)
            have flb := I6.out.at_.lf.frozen k
            have llb := I6.out.at_.lf.lt
            clear hi7 HPT HSE
            go_upto_region 20 with fail
            go_region
            generalize (w6.setCell ⟨u.lb, k, none⟩ (.int .i64 (m : Int))).drew = w7 at *
            clear I6 s0 s1 s2 gB gL lg flb llb
            cases m with
            | succ m =>
              have d2 : (((m + 1 : Nat) : Int) == 0) = false := by simpa using (show ¬ ((m + 1 : Nat) : Int) = 0 by omega)
              have gB : w7.cell? ⟨u.g, 12, none⟩ = some (.slice (some ⟨u.tb, 0, none⟩) M M) := by rw [HMM.out]; exact cell_row (j := 12) I7.out.at_.ob rfl
              have gL : w7.cell? ⟨u.g, 13, none⟩ = some (.slice (some ⟨u.lb, 0, none⟩) M M) := by rw [HMM.out]; exact cell_row (j := 13) I7.out.at_.ob rfl
              have gK : w7.cell? ⟨u.g, 14, none⟩ = some (.slice (some ⟨u.bb, 0, none⟩) M M) := by rw [HMM.out]; exact cell_row (j := 14) I7.out.at_.ob rfl
              have lg : u.g < w7.heap.size := heap_lt I7.out.at_.ob
              have s0 : w7.cell? ⟨u.tb, k, none⟩ = some (.int .i64 (sd : Int)) := by have := I7.out.at_.sd.cell HLT.out; rw [show (({ Z with pn := tickP Z.pn (k + 1) } : YS).pn k) = _ from HTX.out] at this; exact this
              have s1 : w7.cell? ⟨u.lb, k, none⟩ = some (.int .i64 ((m + 1 : Nat) : Int)) := by have := I7.out.at_.lf.cell HLT.out; rw [show (({ Z with pn := tickP Z.pn (k + 1) } : YS).pn k) = _ from HTX.out] at this; exact this
              have s2 : w7.cell? ⟨u.bb, k, none⟩ = some (.bool br) := by have := I7.out.at_.br.cell HLT.out; rw [show (({ Z with pn := tickP Z.pn (k + 1) } : YS).pn k) = _ from HTX.out] at this; exact this
              have l0 := I7.out.at_.sd.lt; have l1 := I7.out.at_.lf.lt; have l2 := I7.out.at_.br.lt
              have e1 : Hid (fn1 = fn) := by
                show _ = _
                rw [HFN1.out, if_neg]; unfold stillB; simp
              have e2 : Hid (fr1 = fr) := by
                show _ = _
                rw [HFR1.out, if_neg]; unfold stillB; simp
              go_wp2_with fail
              go_roundw
              case rel => exact ⟨k + 1, u7, l7, b7, by omega, by go_num, by rw [← HG1.out, ← HG2.out, e1.out, e2.out]; exact I7.out⟩
              case measure => simp [intOf]; omega
            | zero =>
              have gB : w7.cell? ⟨u.g, 12, none⟩ = some (.slice (some ⟨u.tb, 0, none⟩) M M) := by rw [HMM.out]; exact cell_row (j := 12) I7.out.at_.ob rfl
              have gL : w7.cell? ⟨u.g, 13, none⟩ = some (.slice (some ⟨u.lb, 0, none⟩) M M) := by rw [HMM.out]; exact cell_row (j := 13) I7.out.at_.ob rfl
              have gK : w7.cell? ⟨u.g, 14, none⟩ = some (.slice (some ⟨u.bb, 0, none⟩) M M) := by rw [HMM.out]; exact cell_row (j := 14) I7.out.at_.ob rfl
              have lg : u.g < w7.heap.size := heap_lt I7.out.at_.ob
              have s0 : w7.cell? ⟨u.tb, k, none⟩ = some (.int .i64 (sd : Int)) := by have := I7.out.at_.sd.cell HLT.out; rw [show (({ Z with pn := tickP Z.pn (k + 1) } : YS).pn k) = _ from HTX.out] at this; exact this
              have s1 : w7.cell? ⟨u.lb, k, none⟩ = some (.int .i64 0) := by have := I7.out.at_.lf.cell HLT.out; rw [show (({ Z with pn := tickP Z.pn (k + 1) } : YS).pn k) = _ from HTX.out] at this; exact this
              have s2 : w7.cell? ⟨u.bb, k, none⟩ = some (.bool br) := by have := I7.out.at_.br.cell HLT.out; rw [show (({ Z with pn := tickP Z.pn (k + 1) } : YS).pn k) = _ from HTX.out] at this; exact this
              have l0 := I7.out.at_.sd.lt; have l1 := I7.out.at_.lf.lt; have l2 := I7.out.at_.br.lt
              cases br
              case true =>
                have e1 : Hid (fn1 = fn) := HFN1.out
                have e2 : Hid (fr1 = fr) := HFR1.out
                go_wp2_with fail
                go_roundw
                case rel => exact ⟨k + 1, u7, l7, b7, by omega, by go_num, by rw [← HG1.out, ← HG2.out, e1.out, e2.out]; exact I7.out⟩
                case measure => simp [intOf]; omega
              case false =>
              rcases hsd with rfl | rfl
              case inl =>
                have e1 : Hid (fn1 = fn + 2 ^ k) := HFN1.out
                have e2 : Hid (fr1 = fr) := HFR1.out
                have f0 : w7.cell? ⟨fb, 1, none⟩ = some (.int .u32 (fn : Int)) := cell_row (j := 1) I7.out.fd rfl
                have ff0 : w7.frozen? ⟨fb, 1, none⟩ = false := frozen_of_row _ _ _ _ _ I7.out.fd
                have lf0 : fb < w7.heap.size := heap_lt I7.out.fd
                go_upto_region 22 with fail
                go_region
                rw [HSB1.out]
                obtain ⟨u8, l8, b8, hi8⟩ := FrI.fset (f' := { F with no := fn + 2 ^ k, re := fr }) HCO.out I7.out (heap_setCell_same w7 fb 1 _ _ (.int .u32 ((fn + 2 ^ k : Nat) : Int)) I7.out.fd)
                have I8 := Lib.hid (hi8.below (W' := (w7.setCell ⟨fb, 1, none⟩ (.int .u32 ((fn + 2 ^ k : Nat) : Int))).drew) ⟨rfl, rfl, rfl, Nat.le_refl _, fun _ _ => rfl⟩)
                generalize (w7.setCell ⟨fb, 1, none⟩ (.int .u32 ((fn + 2 ^ k : Nat) : Int))).drew = w8 at *
                clear hi8 f0 ff0 lf0 gB gL gK s0 s1 s2 l0 l1 l2 lg
                have gB : w8.cell? ⟨u.g, 12, none⟩ = some (.slice (some ⟨u.tb, 0, none⟩) M M) := by rw [HMM.out]; exact cell_row (j := 12) I8.out.at_.ob rfl
                have gL : w8.cell? ⟨u.g, 13, none⟩ = some (.slice (some ⟨u.lb, 0, none⟩) M M) := by rw [HMM.out]; exact cell_row (j := 13) I8.out.at_.ob rfl
                have gK : w8.cell? ⟨u.g, 14, none⟩ = some (.slice (some ⟨u.bb, 0, none⟩) M M) := by rw [HMM.out]; exact cell_row (j := 14) I8.out.at_.ob rfl
                have lg : u.g < w8.heap.size := heap_lt I8.out.at_.ob
                have s0 : w8.cell? ⟨u.tb, k, none⟩ = some (.int .i64 (1 : Int)) := by have := I8.out.at_.sd.cell HLT.out; rw [show (({ Z with pn := tickP Z.pn (k + 1) } : YS).pn k) = _ from HTX.out] at this; exact this
                have s1 : w8.cell? ⟨u.lb, k, none⟩ = some (.int .i64 0) := by have := I8.out.at_.lf.cell HLT.out; rw [show (({ Z with pn := tickP Z.pn (k + 1) } : YS).pn k) = _ from HTX.out] at this; exact this
                have s2 : w8.cell? ⟨u.bb, k, none⟩ = some (.bool false) := by have := I8.out.at_.br.cell HLT.out; rw [show (({ Z with pn := tickP Z.pn (k + 1) } : YS).pn k) = _ from HTX.out] at this; exact this
                have l0 := I8.out.at_.sd.lt; have l1 := I8.out.at_.lf.lt; have l2 := I8.out.at_.br.lt
                go_wp2_with fail
                go_roundw
                case rel => exact ⟨k + 1, u8, l8, b8, by omega, by go_num, by rw [← HG1.out, ← HG2.out, e1.out, e2.out]; exact I8.out⟩
                case measure => simp [intOf]; omega
              case inr =>
                have e1 : Hid (fn1 = fn) := HFN1.out
                have e2 : Hid (fr1 = fr + 2 ^ k) := HFR1.out
                have f0 : w7.cell? ⟨fb, 2, none⟩ = some (.int .u32 (fr : Int)) := cell_row (j := 2) I7.out.fd rfl
                have ff0 : w7.frozen? ⟨fb, 2, none⟩ = false := frozen_of_row _ _ _ _ _ I7.out.fd
                have lf0 : fb < w7.heap.size := heap_lt I7.out.fd
                go_upto_region 24 with fail
                go_region
                rw [HSB2.out]
                obtain ⟨u8, l8, b8, hi8⟩ := FrI.fset (f' := { F with no := fn, re := fr + 2 ^ k }) HCO.out I7.out (heap_setCell_same w7 fb 2 _ _ (.int .u32 ((fr + 2 ^ k : Nat) : Int)) I7.out.fd)
                have I8 := Lib.hid (hi8.below (W' := (w7.setCell ⟨fb, 2, none⟩ (.int .u32 ((fr + 2 ^ k : Nat) : Int))).drew) ⟨rfl, rfl, rfl, Nat.le_refl _, fun _ _ => rfl⟩)
                generalize (w7.setCell ⟨fb, 2, none⟩ (.int .u32 ((fr + 2 ^ k : Nat) : Int))).drew = w8 at *
                clear hi8 f0 ff0 lf0 gB gL gK s0 s1 s2 l0 l1 l2 lg
                go_wp2_with fail
                go_roundw
                case rel => exact ⟨k + 1, u8, l8, b8, by omega, by go_num, by rw [← HG1.out, ← HG2.out, e1.out, e2.out]; exact I8.out⟩
                case measure => simp [intOf]; omega
          case neg =>
          obtain rfl : M = k := by omega
          have I7 : Hid (FrI (⟨u, Y, ub, lb, bs, w, rb, fb, C⟩ : FC) (tickY Z) (feedY u.r.T Y ms) ve ms.length (intsV (intE (errsY u.r.T Y ms))) u6 l6 b6 w6) := by
            show FrI _ _ _ _ _ _ _ _ _ _
            rw [HFE.out, HFF.out]
            exact I6.out.pn_congr (fun j hj => if_pos (by rw [HMM.out]; exact hj))
          obtain ⟨S, hS⟩ : ∃ S, S = stepS u.r.T (feedY u.r.T Y ms) Y.A := ⟨_, rfl⟩
          have HST := Lib.hid (fun W (hW : FrI (⟨u, Y, ub, lb, bs, w, rb, fb, C⟩ : FC) (tickY Z) (feedY u.r.T Y ms) ve ms.length (intsV (intE (errsY u.r.T Y ms))) u6 l6 b6 W) => rstep_any (f := feedY u.r.T Y ms) (w := W) (u := u.r) (S := Y.A) (ub := u6) (lb := l6)
            (by have := hW.at_.au; rw [show (tickY Z).A = Y.A from MID.out.A] at this; exact this) (feedY_ok HT.out HTK.out.2 Y ms) HT.out (stepS_ok HT.out _ HFN.out.inv.ok))
          rw [← hS] at HST
          obtain ⟨L, hL⟩ : ∃ o, o = orderS u.r.T (feedY u.r.T Y ms) S := ⟨_, rfl⟩
          rw [← hL] at HST
          have HFR2 : Hid (frameY u.r.T u.d Y ms = ⟨S, L, (tickY Z).tn, fun n => turnP L u.d n ((tickY Z).pn n)⟩) := by
            show _ = _
            rw [HFR.out, hL, hS]; unfold turnY; rw [show (tickY Z).A = Y.A from MID.out.A]
          have HLO : Hid L.Ok := by show L.Ok; rw [hL, hS]; exact order_ok HT.out _ (stepS_ok HT.out _ HFN.out.inv.ok)
          clear hS hL HFR HFE HFF I6
          generalize feedY u.r.T Y ms = f at *
          unfold OD.val at HST
          have HSV : Hid (∀ V Y' a b c, FrI (⟨u, Y, ub, lb, bs, w, rb, fb, C⟩ : FC) Y' f ve ms.length (intsV (intE (errsY u.r.T Y ms))) a b c V → (V.cell? ⟨u.g, 4, none⟩ = some (.pointer (some ⟨u.r.g, 0, none⟩)) ∧ V.cell? ⟨fb, 0, none⟩ = some (.int .u32 (f.cl : Int)) ∧ V.cell? ⟨fb, 1, none⟩ = some (.int .u32 (f.no : Int)) ∧ V.cell? ⟨fb, 2, none⟩ = some (.int .u32 (f.re : Int)) ∧ V.cell? ⟨fb, 3, none⟩ = some (.int .u32 (f.ak : Int)) ∧ V.cell? ⟨fb, 4, none⟩ = some (.int .u32 (f.ca : Int)) ∧ V.cell? ⟨fb, 5, none⟩ = some (.int .u32 (f.rq : Int))) ∧ u.g < V.heap.size ∧ fb < V.heap.size) := fun V Y' a b c h =>
            ⟨⟨cell_row h.at_.ob rfl, cell_row h.fd rfl, cell_row h.fd rfl, cell_row h.fd rfl, cell_row h.fd rfl, cell_row h.fd rfl, cell_row h.fd rfl⟩, heap_lt h.at_.ob, heap_lt h.fd⟩
          have ID := Lib.hid (I7.out.below (W' := w6.drew) ⟨rfl, rfl, rfl, Nat.le_refl _, fun _ _ => rfl⟩)
          clear gB lg
          have gB : w6.cell? ⟨u.g, 12, none⟩ = some (.slice (some ⟨u.tb, 0, none⟩) M M) := by rw [HMM.out]; exact cell_row (j := 12) I7.out.at_.ob rfl
          have lg : u.g < w6.heap.size := heap_lt I7.out.at_.ob
          go_upto_region 25 with fail
          clear gB lg
          go_region_held3 (fun V => (V.cell? ⟨u.g, 4, none⟩ = some (.pointer (some ⟨u.r.g, 0, none⟩)) ∧ V.cell? ⟨fb, 0, none⟩ = some (.int .u32 (f.cl : Int)) ∧ V.cell? ⟨fb, 1, none⟩ = some (.int .u32 (f.no : Int)) ∧ V.cell? ⟨fb, 2, none⟩ = some (.int .u32 (f.re : Int)) ∧ V.cell? ⟨fb, 3, none⟩ = some (.int .u32 (f.ak : Int)) ∧ V.cell? ⟨fb, 4, none⟩ = some (.int .u32 (f.ca : Int)) ∧ V.cell? ⟨fb, 5, none⟩ = some (.int .u32 (f.rq : Int))) ∧ u.g < V.heap.size ∧ fb < V.heap.size)
            (first | exact HSV.out _ _ _ _ _ I9.out | exact HSV.out _ _ _ _ _ I8.out | exact HSV.out _ _ _ _ _ ID.out)
            ((go_at_call 38; (with_reducible refine (HST.out w6.drew ID.out).mono ?_); rintro e w8 ⟨rfl, hu8⟩;
              obtain ⟨u8, l8, b8, hi8⟩ := FrI.rdp (Y' := { tickY Z with A := S }) HCO.out ID.out (ID.out.at_.step (by rw [show (tickY Z).A = Y.A from MID.out.A]; exact hu8));
              have I8 := Lib.hid hi8;
              have c6 := cell_row (j := 6) I8.out.at_.ob rfl; have c7 := cell_row (j := 7) I8.out.at_.ob rfl; have c8 := cell_row (j := 8) I8.out.at_.ob rfl; have c9 := cell_row (j := 9) I8.out.at_.ob rfl;
              have cf6 : w8.frozen? ⟨u.g, 6, none⟩ = false := frozen_of_row _ _ _ _ _ I8.out.at_.ob; have cf7 : w8.frozen? ⟨u.g, 7, none⟩ = false := frozen_of_row _ _ _ _ _ I8.out.at_.ob; have cf8 : w8.frozen? ⟨u.g, 8, none⟩ = false := frozen_of_row _ _ _ _ _ I8.out.at_.ob; have cf9 : w8.frozen? ⟨u.g, 9, none⟩ = false := frozen_of_row _ _ _ _ _ I8.out.at_.ob;
              obtain ⟨u9, l9, b9, hi9⟩ := FrI.rdp HCO.out I8.out (I8.out.at_.set_L L);
              have I9 := Lib.hid hi9;
              clear hi8 hi9 hu8))
          rename_i hheld
          clear hheld
          have K9 : Hid (FrI (⟨u, Y, ub, lb, bs, w, rb, fb, C⟩ : FC) ⟨S, L, Z.tn, turnK L u.d (tickY Z).pn 0⟩ f ve ms.length (intsV (intE (errsY u.r.T Y ms))) u9 l9 b9 ((((w8.setCell ⟨u.g, 6, none⟩ (.int .u32 (L.pr : Int))).setCell ⟨u.g, 7, none⟩ (.int .u32 (L.no : Int))).setCell ⟨u.g, 8, none⟩ (.int .u32 (L.re : Int))).setCell ⟨u.g, 9, none⟩ (.int .u32 (L.lo : Int)))) := I9.out
          generalize ((((w8.setCell ⟨u.g, 6, none⟩ (.int .u32 (L.pr : Int))).setCell ⟨u.g, 7, none⟩ (.int .u32 (L.no : Int))).setCell ⟨u.g, 8, none⟩ (.int .u32 (L.re : Int))).setCell ⟨u.g, 9, none⟩ (.int .u32 (L.lo : Int))) = w9 at *
          clear I9 I8 I7 ID c6 c7 c8 c9 cf6 cf7 cf8 cf9 HST HSV
          go_wp2_with fail
          go_loopw [14] (fun i wr => ∃ (k : Nat) (ub' lb' bs' : Nat → Nat), k ≤ M ∧ i = .int .i64 k ∧ FrI (⟨u, Y, ub, lb, bs, w, rb, fb, C⟩ : FC) ⟨S, L, Z.tn, turnK L u.d (tickY Z).pn k⟩ f ve ms.length (intsV (intE (errsY u.r.T Y ms))) ub' lb' bs' wr) (fun i _ => M - (intOf i).toNat)
          case atStart => exact ⟨0, u9, l9, b9, Nat.zero_le _, rfl, K9.out⟩
          case round =>
            clear K9
            obtain ⟨k, u6, l6, b6, hk, rfl, hi6⟩ := hrel
            have I6 := Lib.hid hi6
            clear hi6
            obtain ⟨w6, rfl⟩ : ∃ w6 : World, w6 = wr := ⟨_, rfl⟩
            have gB : w6.cell? ⟨u.g, 12, none⟩ = some (.slice (some ⟨u.tb, 0, none⟩) M M) := by rw [HMM.out]; exact cell_row (j := 12) I6.out.at_.ob rfl
            have lg : u.g < w6.heap.size := heap_lt I6.out.at_.ob
            by_cases hlt : k < M
            case pos =>
              have HLT : Hid (k < u.r.T.pts.length) := by rw [← HMM.out]; exact hlt
              have gL : w6.cell? ⟨u.g, 13, none⟩ = some (.slice (some ⟨u.lb, 0, none⟩) M M) := by rw [HMM.out]; exact cell_row (j := 13) I6.out.at_.ob rfl
              have g5 : w6.cell? ⟨u.g, 5, none⟩ = some (.int .i64 (u.d : Int)) := cell_row (j := 5) I6.out.at_.ob rfl
              have g7 : w6.cell? ⟨u.g, 7, none⟩ = some (.int .u32 (L.no : Int)) := cell_row (j := 7) I6.out.at_.ob rfl
              have g8 : w6.cell? ⟨u.g, 8, none⟩ = some (.int .u32 (L.re : Int)) := cell_row (j := 8) I6.out.at_.ob rfl
              obtain ⟨p, hp⟩ : ∃ p, p = (tickY Z).pn k := ⟨_, rfl⟩
              have HKA : Hid (turnK L u.d (tickY Z).pn k k = p) := by show _ = _; rw [hp]; exact turnK_at _ _ _ _
              have s0 : w6.cell? ⟨u.tb, k, none⟩ = some (.int .i64 (p.sd : Int)) := by have := I6.out.at_.sd.cell HLT.out; rw [show ((⟨S, L, Z.tn, turnK L u.d (tickY Z).pn k⟩ : YS).pn k) = p from HKA.out] at this; exact this
              have s1 : w6.cell? ⟨u.lb, k, none⟩ = some (.int .i64 (p.lf : Int)) := by have := I6.out.at_.lf.cell HLT.out; rw [show ((⟨S, L, Z.tn, turnK L u.d (tickY Z).pn k⟩ : YS).pn k) = p from HKA.out] at this; exact this
              have sl0 := I6.out.at_.sd.lt; have sl1 := I6.out.at_.lf.lt
              have sf0 := I6.out.at_.sd.frozen k; have sf1 := I6.out.at_.lf.frozen k
              have hlbt : u.tb ≠ u.lb := I6.out.at_.ap.tl
              have hgt : u.g ≠ u.tb := I6.out.at_.ap.gt
              have hgl : u.g ≠ u.lb := I6.out.at_.ap.gl
              have hp12 : p.sd = 1 ∨ p.sd = 2 := by
                rw [hp]
                show (Z.pn k).sd = 1 ∨ (Z.pn k).sd = 2
                rw [(MID.out.pn k).1]; exact HFN.out.inv.t12 k
              have HTK1 : Hid (∀ q, q = turnP L u.d k p → turnK L u.d (tickY Z).pn (k + 1) = fun j => if j = k then q else turnK L u.d (tickY Z).pn k j) := fun q hq => by rw [hq, hp]; exact turnK_succ _ _ _ _
              have HTP : Hid (turnP L u.d k p = if (if L.no.testBit k then 1 else if L.re.testBit k then 2 else p.sd) = p.sd then p else ⟨if L.no.testBit k then 1 else if L.re.testBit k then 2 else p.sd, u.d + 1, p.br⟩) := rfl
              have HBR := Lib.hid (fun W => rbit_any L.re k W HLO.out.re (show k < 32 by omega))
              have HBN := Lib.hid (fun W => rbit_any L.no k W HLO.out.no (show k < 32 by omega))
              have hdd := HD.out
              clear hp
              obtain ⟨lre, hlre⟩ : ∃ x, x = L.re := ⟨_, rfl⟩
              obtain ⟨lno, hlno⟩ : ∃ x, x = L.no := ⟨_, rfl⟩
              rw [← hlre] at g8 HBR HTP
              rw [← hlno] at g7 HBN HTP
              clear hlre hlno
              generalize lno.testBit k = n at *
              generalize lre.testBit k = r at *
              obtain ⟨sd, lf, br⟩ := p
              dsimp only at s0 s1 hp12
              cases n
              case true =>
                cases r
                case true =>
                  rcases hp12 with rfl | rfl
                  case inl =>
                    have HST : Hid (turnK L u.d (tickY Z).pn (k + 1) = turnK L u.d (tickY Z).pn k) := by
                      show _ = _
                      rw [HTK1.out _ rfl, HTP.out]
                      funext j
                      by_cases e : j = k
                      · rw [if_pos e, e, HKA.out]; rfl
                      · rw [if_neg e]
                    go_wp2_with fail
                    refine (HBR.out _).mono ?_
                    rintro e w7 ⟨rfl, hw7⟩
                    obtain rfl : w6 = w7 := hw7.symm
                    go_wp2_with fail
                    refine (HBN.out _).mono ?_
                    rintro e w7 ⟨rfl, hw7⟩
                    obtain rfl : w6 = w7 := hw7.symm
                    go_wp2_with fail
                    go_roundw
                    case rel => exact ⟨k + 1, u6, l6, b6, by omega, by go_num, by rw [HST.out]; exact I6.out⟩
                    case measure => simp [intOf]; omega
                  case inr =>
                    have HST : Hid (turnK L u.d (tickY Z).pn (k + 1) = fun j => if j = k then ⟨1, u.d + 1, br⟩ else turnK L u.d (tickY Z).pn k j) := HTK1.out _ HTP.out.symm
                    obtain ⟨u7, l7, b7, hi7⟩ := FrI.rdp HCO.out I6.out (RdAt.pt (I6.out.at_.setS k { (turnK L u.d (tickY Z).pn k k) with sd := 1 } rfl rfl) (.inr (.inr (.inr (.inl rfl)))))
                    have I7 := Lib.hid hi7
                    obtain ⟨u8, l8, b8, hi8⟩ := FrI.rdp HCO.out I7.out (RdAt.pt (I7.out.at_.setL k ⟨1, u.d + 1, br⟩ (by rw [show (YS.setP ⟨S, L, Z.tn, turnK L u.d (tickY Z).pn k⟩ k { (turnK L u.d (tickY Z).pn k k) with sd := 1 }).pn k = { (turnK L u.d (tickY Z).pn k k) with sd := 1 } from if_pos rfl]) (by rw [show (YS.setP ⟨S, L, Z.tn, turnK L u.d (tickY Z).pn k⟩ k { (turnK L u.d (tickY Z).pn k k) with sd := 1 }).pn k = { (turnK L u.d (tickY Z).pn k k) with sd := 1 } from if_pos rfl, HKA.out])) (.inr (.inr (.inr (.inr (.inl rfl))))))
                    rw [setP_setP] at hi8
                    have HEQ : YS.setP ⟨S, L, Z.tn, turnK L u.d (tickY Z).pn k⟩ k ⟨1, u.d + 1, br⟩ = ⟨S, L, Z.tn, turnK L u.d (tickY Z).pn (k + 1)⟩ := by
                      rw [HST.out]; rfl
                    rw [HEQ] at hi8
                    have I8 : Hid (FrI (⟨u, Y, ub, lb, bs, w, rb, fb, C⟩ : FC) ⟨S, L, Z.tn, turnK L u.d (tickY Z).pn (k + 1)⟩ f ve ms.length (intsV (intE (errsY u.r.T Y ms))) u8 l8 b8 ((w6.setCell ⟨u.tb, k, none⟩ (.int .i64 1)).setCell ⟨u.lb, k, none⟩ (.int .i64 ((u.d : Int) + 1))).drew) := hi8.below ⟨rfl, rfl, rfl, Nat.le_refl _, fun _ _ => rfl⟩
                    have gT2 : (w6.setCell ⟨u.tb, k, none⟩ (.int .i64 1)).cell? ⟨u.g, 13, none⟩ = some (.slice (some ⟨u.lb, 0, none⟩) M M) := by rw [HMM.out]; exact cell_row (j := 13) I7.out.at_.ob rfl
                    have gD2 : (w6.setCell ⟨u.tb, k, none⟩ (.int .i64 1)).cell? ⟨u.g, 5, none⟩ = some (.int .i64 (u.d : Int)) := cell_row (j := 5) I7.out.at_.ob rfl
                    have lg2 : u.g < (w6.setCell ⟨u.tb, k, none⟩ (.int .i64 1)).heap.size := heap_lt I7.out.at_.ob
                    have sf2 : (w6.setCell ⟨u.tb, k, none⟩ (.int .i64 1)).frozen? ⟨u.lb, k, none⟩ = false := I7.out.at_.lf.frozen k
                    have sl2 : u.lb < (w6.setCell ⟨u.tb, k, none⟩ (.int .i64 1)).heap.size := I7.out.at_.lf.lt
                    clear hi7 hi8 HEQ
                    go_wp2_with fail
                    refine (HBR.out _).mono ?_
                    rintro e w7 ⟨rfl, hw7⟩
                    obtain rfl : w6 = w7 := hw7.symm
                    go_wp2_with fail
                    refine (HBN.out _).mono ?_
                    rintro e w7 ⟨rfl, hw7⟩
                    obtain rfl : w6 = w7 := hw7.symm
                    go_upto_region 36 with fail
                    go_region
                    generalize ((w6.setCell ⟨u.tb, k, none⟩ (.int .i64 1)).setCell ⟨u.lb, k, none⟩ (.int .i64 ((u.d : Int) + 1))).drew = w8 at *
                    clear gT2 gD2 lg2 sf2 sl2 gB gL g5 g7 g8 s0 s1 sl0 sl1 sf0 sf1 lg
                    go_wp2_with fail
                    go_roundw
                    case rel => exact ⟨k + 1, u8, l8, b8, by omega, by go_num, I8.out⟩
                    case measure => simp [intOf]; omega
                case false =>
                  rcases hp12 with rfl | rfl
                  case inl =>
                    have HST : Hid (turnK L u.d (tickY Z).pn (k + 1) = turnK L u.d (tickY Z).pn k) := by
                      show _ = _
                      rw [HTK1.out _ rfl, HTP.out]
                      funext j
                      by_cases e : j = k
                      · rw [if_pos e, e, HKA.out]; rfl
                      · rw [if_neg e]
                    go_wp2_with fail
                    refine (HBR.out _).mono ?_
                    rintro e w7 ⟨rfl, hw7⟩
                    obtain rfl : w6 = w7 := hw7.symm
                    go_wp2_with fail
                    refine (HBN.out _).mono ?_
                    rintro e w7 ⟨rfl, hw7⟩
                    obtain rfl : w6 = w7 := hw7.symm
                    go_wp2_with fail
                    go_roundw
                    case rel => exact ⟨k + 1, u6, l6, b6, by omega, by go_num, by rw [HST.out]; exact I6.out⟩
                    case measure => simp [intOf]; omega
                  case inr =>
                    have HST : Hid (turnK L u.d (tickY Z).pn (k + 1) = fun j => if j = k then ⟨1, u.d + 1, br⟩ else turnK L u.d (tickY Z).pn k j) := HTK1.out _ HTP.out.symm
                    obtain ⟨u7, l7, b7, hi7⟩ := FrI.rdp HCO.out I6.out (RdAt.pt (I6.out.at_.setS k { (turnK L u.d (tickY Z).pn k k) with sd := 1 } rfl rfl) (.inr (.inr (.inr (.inl rfl)))))
                    have I7 := Lib.hid hi7
                    obtain ⟨u8, l8, b8, hi8⟩ := FrI.rdp HCO.out I7.out (RdAt.pt (I7.out.at_.setL k ⟨1, u.d + 1, br⟩ (by rw [show (YS.setP ⟨S, L, Z.tn, turnK L u.d (tickY Z).pn k⟩ k { (turnK L u.d (tickY Z).pn k k) with sd := 1 }).pn k = { (turnK L u.d (tickY Z).pn k k) with sd := 1 } from if_pos rfl]) (by rw [show (YS.setP ⟨S, L, Z.tn, turnK L u.d (tickY Z).pn k⟩ k { (turnK L u.d (tickY Z).pn k k) with sd := 1 }).pn k = { (turnK L u.d (tickY Z).pn k k) with sd := 1 } from if_pos rfl, HKA.out])) (.inr (.inr (.inr (.inr (.inl rfl))))))
                    rw [setP_setP] at hi8
                    have HEQ : YS.setP ⟨S, L, Z.tn, turnK L u.d (tickY Z).pn k⟩ k ⟨1, u.d + 1, br⟩ = ⟨S, L, Z.tn, turnK L u.d (tickY Z).pn (k + 1)⟩ := by
                      rw [HST.out]; rfl
                    rw [HEQ] at hi8
                    have I8 : Hid (FrI (⟨u, Y, ub, lb, bs, w, rb, fb, C⟩ : FC) ⟨S, L, Z.tn, turnK L u.d (tickY Z).pn (k + 1)⟩ f ve ms.length (intsV (intE (errsY u.r.T Y ms))) u8 l8 b8 ((w6.setCell ⟨u.tb, k, none⟩ (.int .i64 1)).setCell ⟨u.lb, k, none⟩ (.int .i64 ((u.d : Int) + 1))).drew) := hi8.below ⟨rfl, rfl, rfl, Nat.le_refl _, fun _ _ => rfl⟩
                    have gT2 : (w6.setCell ⟨u.tb, k, none⟩ (.int .i64 1)).cell? ⟨u.g, 13, none⟩ = some (.slice (some ⟨u.lb, 0, none⟩) M M) := by rw [HMM.out]; exact cell_row (j := 13) I7.out.at_.ob rfl
                    have gD2 : (w6.setCell ⟨u.tb, k, none⟩ (.int .i64 1)).cell? ⟨u.g, 5, none⟩ = some (.int .i64 (u.d : Int)) := cell_row (j := 5) I7.out.at_.ob rfl
                    have lg2 : u.g < (w6.setCell ⟨u.tb, k, none⟩ (.int .i64 1)).heap.size := heap_lt I7.out.at_.ob
                    have sf2 : (w6.setCell ⟨u.tb, k, none⟩ (.int .i64 1)).frozen? ⟨u.lb, k, none⟩ = false := I7.out.at_.lf.frozen k
                    have sl2 : u.lb < (w6.setCell ⟨u.tb, k, none⟩ (.int .i64 1)).heap.size := I7.out.at_.lf.lt
                    clear hi7 hi8 HEQ
                    go_wp2_with fail
                    refine (HBR.out _).mono ?_
                    rintro e w7 ⟨rfl, hw7⟩
                    obtain rfl : w6 = w7 := hw7.symm
                    go_wp2_with fail
                    refine (HBN.out _).mono ?_
                    rintro e w7 ⟨rfl, hw7⟩
                    obtain rfl : w6 = w7 := hw7.symm
                    go_upto_region 36 with fail
                    go_region
                    generalize ((w6.setCell ⟨u.tb, k, none⟩ (.int .i64 1)).setCell ⟨u.lb, k, none⟩ (.int .i64 ((u.d : Int) + 1))).drew = w8 at *
                    clear gT2 gD2 lg2 sf2 sl2 gB gL g5 g7 g8 s0 s1 sl0 sl1 sf0 sf1 lg
                    go_wp2_with fail
                    go_roundw
                    case rel => exact ⟨k + 1, u8, l8, b8, by omega, by go_num, I8.out⟩
                    case measure => simp [intOf]; omega
              case false =>
              cases r
              case true =>
                rcases hp12 with rfl | rfl
                case inl =>
                  have HST : Hid (turnK L u.d (tickY Z).pn (k + 1) = fun j => if j = k then ⟨2, u.d + 1, br⟩ else turnK L u.d (tickY Z).pn k j) := HTK1.out _ HTP.out.symm
                  obtain ⟨u7, l7, b7, hi7⟩ := FrI.rdp HCO.out I6.out (RdAt.pt (I6.out.at_.setS k { (turnK L u.d (tickY Z).pn k k) with sd := 2 } rfl rfl) (.inr (.inr (.inr (.inl rfl)))))
                  have I7 := Lib.hid hi7
                  obtain ⟨u8, l8, b8, hi8⟩ := FrI.rdp HCO.out I7.out (RdAt.pt (I7.out.at_.setL k ⟨2, u.d + 1, br⟩ (by rw [show (YS.setP ⟨S, L, Z.tn, turnK L u.d (tickY Z).pn k⟩ k { (turnK L u.d (tickY Z).pn k k) with sd := 2 }).pn k = { (turnK L u.d (tickY Z).pn k k) with sd := 2 } from if_pos rfl]) (by rw [show (YS.setP ⟨S, L, Z.tn, turnK L u.d (tickY Z).pn k⟩ k { (turnK L u.d (tickY Z).pn k k) with sd := 2 }).pn k = { (turnK L u.d (tickY Z).pn k k) with sd := 2 } from if_pos rfl, HKA.out])) (.inr (.inr (.inr (.inr (.inl rfl))))))
                  rw [setP_setP] at hi8
                  have HEQ : YS.setP ⟨S, L, Z.tn, turnK L u.d (tickY Z).pn k⟩ k ⟨2, u.d + 1, br⟩ = ⟨S, L, Z.tn, turnK L u.d (tickY Z).pn (k + 1)⟩ := by
                    rw [HST.out]; rfl
                  rw [HEQ] at hi8
                  have I8 : Hid (FrI (⟨u, Y, ub, lb, bs, w, rb, fb, C⟩ : FC) ⟨S, L, Z.tn, turnK L u.d (tickY Z).pn (k + 1)⟩ f ve ms.length (intsV (intE (errsY u.r.T Y ms))) u8 l8 b8 ((w6.setCell ⟨u.tb, k, none⟩ (.int .i64 2)).setCell ⟨u.lb, k, none⟩ (.int .i64 ((u.d : Int) + 1))).drew) := hi8.below ⟨rfl, rfl, rfl, Nat.le_refl _, fun _ _ => rfl⟩
                  have gT2 : (w6.setCell ⟨u.tb, k, none⟩ (.int .i64 2)).cell? ⟨u.g, 13, none⟩ = some (.slice (some ⟨u.lb, 0, none⟩) M M) := by rw [HMM.out]; exact cell_row (j := 13) I7.out.at_.ob rfl
                  have gD2 : (w6.setCell ⟨u.tb, k, none⟩ (.int .i64 2)).cell? ⟨u.g, 5, none⟩ = some (.int .i64 (u.d : Int)) := cell_row (j := 5) I7.out.at_.ob rfl
                  have lg2 : u.g < (w6.setCell ⟨u.tb, k, none⟩ (.int .i64 2)).heap.size := heap_lt I7.out.at_.ob
                  have sf2 : (w6.setCell ⟨u.tb, k, none⟩ (.int .i64 2)).frozen? ⟨u.lb, k, none⟩ = false := I7.out.at_.lf.frozen k
                  have sl2 : u.lb < (w6.setCell ⟨u.tb, k, none⟩ (.int .i64 2)).heap.size := I7.out.at_.lf.lt
                  clear hi7 hi8 HEQ
                  go_wp2_with fail
                  refine (HBR.out _).mono ?_
                  rintro e w7 ⟨rfl, hw7⟩
                  obtain rfl : w6 = w7 := hw7.symm
                  go_wp2_with fail
                  refine (HBN.out _).mono ?_
                  rintro e w7 ⟨rfl, hw7⟩
                  obtain rfl : w6 = w7 := hw7.symm
                  go_upto_region 36 with fail
                  go_region
                  generalize ((w6.setCell ⟨u.tb, k, none⟩ (.int .i64 2)).setCell ⟨u.lb, k, none⟩ (.int .i64 ((u.d : Int) + 1))).drew = w8 at *
                  clear gT2 gD2 lg2 sf2 sl2 gB gL g5 g7 g8 s0 s1 sl0 sl1 sf0 sf1 lg
                  go_wp2_with fail
                  go_roundw
                  case rel => exact ⟨k + 1, u8, l8, b8, by omega, by go_num, I8.out⟩
                  case measure => simp [intOf]; omega
                case inr =>
                  have HST : Hid (turnK L u.d (tickY Z).pn (k + 1) = turnK L u.d (tickY Z).pn k) := by
                    show _ = _
                    rw [HTK1.out _ rfl, HTP.out]
                    funext j
                    by_cases e : j = k
                    · rw [if_pos e, e, HKA.out]; rfl
                    · rw [if_neg e]
                  go_wp2_with fail
                  refine (HBR.out _).mono ?_
                  rintro e w7 ⟨rfl, hw7⟩
                  obtain rfl : w6 = w7 := hw7.symm
                  go_wp2_with fail
                  refine (HBN.out _).mono ?_
                  rintro e w7 ⟨rfl, hw7⟩
                  obtain rfl : w6 = w7 := hw7.symm
                  go_wp2_with fail
                  go_roundw
                  case rel => exact ⟨k + 1, u6, l6, b6, by omega, by go_num, by rw [HST.out]; exact I6.out⟩
                  case measure => simp [intOf]; omega
              case false =>
                rcases hp12 with rfl | rfl
                case inl =>
                  have HST : Hid (turnK L u.d (tickY Z).pn (k + 1) = turnK L u.d (tickY Z).pn k) := by
                    show _ = _
                    rw [HTK1.out _ rfl, HTP.out]
                    funext j
                    by_cases e : j = k
                    · rw [if_pos e, e, HKA.out]; rfl
                    · rw [if_neg e]
                  go_wp2_with fail
                  refine (HBR.out _).mono ?_
                  rintro e w7 ⟨rfl, hw7⟩
                  obtain rfl : w6 = w7 := hw7.symm
                  go_wp2_with fail
                  refine (HBN.out _).mono ?_
                  rintro e w7 ⟨rfl, hw7⟩
                  obtain rfl : w6 = w7 := hw7.symm
                  go_wp2_with fail
                  go_roundw
                  case rel => exact ⟨k + 1, u6, l6, b6, by omega, by go_num, by rw [HST.out]; exact I6.out⟩
                  case measure => simp [intOf]; omega
                case inr =>
                  have HST : Hid (turnK L u.d (tickY Z).pn (k + 1) = turnK L u.d (tickY Z).pn k) := by
                    show _ = _
                    rw [HTK1.out _ rfl, HTP.out]
                    funext j
                    by_cases e : j = k
                    · rw [if_pos e, e, HKA.out]; rfl
                    · rw [if_neg e]
                  go_wp2_with fail
                  refine (HBR.out _).mono ?_
                  rintro e w7 ⟨rfl, hw7⟩
                  obtain rfl : w6 = w7 := hw7.symm
                  go_wp2_with fail
                  refine (HBN.out _).mono ?_
                  rintro e w7 ⟨rfl, hw7⟩
                  obtain rfl : w6 = w7 := hw7.symm
                  go_wp2_with fail
                  go_roundw
                  case rel => exact ⟨k + 1, u6, l6, b6, by omega, by go_num, by rw [HST.out]; exact I6.out⟩
                  case measure => simp [intOf]; omega
            case neg =>
            obtain rfl : M = k := by omega
            have I7 : Hid (FrI (⟨u, Y, ub, lb, bs, w, rb, fb, C⟩ : FC) (frameY u.r.T u.d Y ms) f ve ms.length (intsV (intE (errsY u.r.T Y ms))) u6 l6 b6 w6) := by
              show FrI _ _ _ _ _ _ _ _ _ _
              rw [HFR2.out]
              exact I6.out.pn_congr (fun j hj => if_pos (by rw [HMM.out]; exact hj))
            have HLL : Hid ((frameY u.r.T u.d Y ms).L = L) := by show _ = _; rw [HFR2.out]
            have g6 : w6.cell? ⟨u.g, 6, none⟩ = some (.int .u32 (L.pr : Int)) := cell_row (j := 6) I6.out.at_.ob rfl
            have g7 : w6.cell? ⟨u.g, 7, none⟩ = some (.int .u32 (L.no : Int)) := cell_row (j := 7) I6.out.at_.ob rfl
            have g8 : w6.cell? ⟨u.g, 8, none⟩ = some (.int .u32 (L.re : Int)) := cell_row (j := 8) I6.out.at_.ob rfl
            have g9 : w6.cell? ⟨u.g, 9, none⟩ = some (.int .u32 (L.lo : Int)) := cell_row (j := 9) I6.out.at_.ob rfl
            have z0 : w6.cell? ⟨rb, 0, none⟩ = some (.int .u32 0) := cell_row (j := 0) I6.out.od rfl
            have z1 : w6.cell? ⟨rb, 1, none⟩ = some (.int .u32 0) := cell_row (j := 1) I6.out.od rfl
            have z2 : w6.cell? ⟨rb, 2, none⟩ = some (.int .u32 0) := cell_row (j := 2) I6.out.od rfl
            have z3 : w6.cell? ⟨rb, 3, none⟩ = some (.int .u32 0) := cell_row (j := 3) I6.out.od rfl
            have zf0 : w6.frozen? ⟨rb, 0, none⟩ = false := frozen_of_row _ _ _ _ _ I6.out.od
            have zf1 : w6.frozen? ⟨rb, 1, none⟩ = false := frozen_of_row _ _ _ _ _ I6.out.od
            have zf2 : w6.frozen? ⟨rb, 2, none⟩ = false := frozen_of_row _ _ _ _ _ I6.out.od
            have zf3 : w6.frozen? ⟨rb, 3, none⟩ = false := frozen_of_row _ _ _ _ _ I6.out.od
            have lr : rb < w6.heap.size := heap_lt I6.out.od
            have HIN : Hid (IntsAt w6 ve (intE (errsY u.r.T Y ms))) := by
              have hl : (intE (errsY u.r.T Y ms)).length = ms.length := by unfold intE errsY; rw [List.length_map, movesE_len]
              exact own_ints (by rw [hl]; exact I6.out.own) fun i hi => errs_ok _ _ _ i (by rw [← hl]; exact hi)
            have HBS : Hid (∀ b o k c, ve = .slice (some ⟨b, o, none⟩) k c → w.heap.size ≤ b ∧ b ≠ rb) := fun b o k c e => by
              have h1 := HCO.out
              have h2 : C ≤ b := (own_lt_ I6.out.own b (by rw [e]; rfl)).1
              have h3 : rb < C := h1.rC
              have h4 : w.heap.size ≤ rb := h1.r
              omega
            have HEND : Hid (IntsAt w6 ve (intE (errsY u.r.T Y ms)) ∧ RdAt w6 u (frameY u.r.T u.d Y ms) u6 l6 b6 ∧ Only (AllR u Y ub lb bs) w w6) := ⟨HIN.out, I7.out.at_, I7.out.on⟩
            have HALL : Hid (∀ b, AllR u (frameY u.r.T u.d Y ms) u6 l6 b6 b → AllR u Y ub lb bs b ∨ w.heap.size ≤ b) := I7.out.all
            have HSET : Hid (∀ (W : World) (j : Nat) (x : Value), (IntsAt W ve (intE (errsY u.r.T Y ms)) ∧ RdAt W u (frameY u.r.T u.d Y ms) u6 l6 b6 ∧ Only (AllR u Y ub lb bs) w W) → IntsAt (W.setCell ⟨rb, j, none⟩ x) ve (intE (errsY u.r.T Y ms)) ∧ RdAt (W.setCell ⟨rb, j, none⟩ x) u (frameY u.r.T u.d Y ms) u6 l6 b6 ∧ Only (AllR u Y ub lb bs) w (W.setCell ⟨rb, j, none⟩ x)) := fun W j x h => by
              have ho : Only (fun b => b = rb) W (W.setCell ⟨rb, j, none⟩ x) := (Only.refl (fun b => b = rb) W).set _ _ (.inr rfl)
              have h1 := HCO.out
              have h2 : w.heap.size ≤ rb := h1.r
              have h3 : u.r.w0.heap.size ≤ w.heap.size := h1.z
              have h4 : u.r.g < w.heap.size := h1.g
              exact ⟨h.1.only ho (fun b o k c e => (HBS.out b o k c e).2), h.2.1.only ho (fun b hb => by omega) (fun e => by omega) (fun b hb e => I7.out.nr (by rw [e] at hb; exact hb)), h.2.2.set _ _ (.inl h2)⟩
            go_wp2_with fail
            exact bodyPost_ret (v := .tuple #[.agg #[.int .u32 (L.pr : Int), .int .u32 (L.no : Int), .int .u32 (L.re : Int), .int .u32 (L.lo : Int)], ve]) (by simp [results, Try.results17, go_sem, z0, z1, z2, z3, lr]) rfl
              (by
                have h := HSET.out _ 3 (.int .u32 (L.lo : Int)) (HSET.out _ 2 (.int .u32 (L.re : Int)) (HSET.out _ 1 (.int .u32 (L.no : Int)) (HSET.out _ 0 (.int .u32 (L.pr : Int)) HEND.out)))
                exact ⟨⟨ve, by rw [HLL.out]; rfl, h.1, fun b o k c e => (HBS.out b o k c e).1⟩, u6, l6, b6, h.2.1, h.2.2, HALL.out⟩)
end Go.Proofs.Ytnjeiigdfdjccaa
