/- The document's table: route. -/
import Derived.Test.YtpodedhnlicckaaGreatDoorRfABC
import Derived.Deep.Cut
namespace Go.Proofs.YtpodedhnlicckaaGreatDoor
open Go.RowKit
set_option linter.unusedVariables false
set_option linter.unusedSimpArgs false
theorem getD_mem' {α : Type} {l : List α} {i : Nat} {d : α} (h : i < l.length) : l.getD i d ∈ l := by
  rw [List.getD_eq_getElem?_getD, List.getElem?_eq_getElem h]; exact List.getElem_mem h
def rnearB (T : Tab) (r : Rt) (n : Nat) : Bool := (List.range r.con.length).all fun i => hasI (T.rts.getD (r.con.getD i 0).toNat rt0).con (n : Int) && (i == 0 || decide (r.con.getD (i - 1) 0 < r.con.getD i 0))
theorem rnearB_eq {T : Tab} {r : Rt} {n : Nat} {N : Int} (h : withinI r.con N = true) : rnearB T r n = (sortedI r.con && !mutB T r n) := by
  have hw := withinI_iff.1 h
  unfold rnearB
  rw [Bool.eq_iff_iff]
  simp only [List.all_eq_true, List.mem_range, Bool.and_eq_true, Bool.or_eq_true, beq_iff_eq, decide_eq_true_eq, Bool.not_eq_true']
  have hm : mutB T r n = false ↔ ∀ i, i < r.con.length → hasI (T.rts.getD (r.con.getD i 0).toNat rt0).con (n : Int) = true := by
    unfold mutB
    constructor
    · intro h i hi
      rw [List.any_eq_false] at h
      have := h _ (getD_mem' (d := (0 : Int)) hi)
      cases hq : hasI (T.rts.getD (r.con.getD i 0).toNat rt0).con (n : Int) with
      | true => rfl
      | false => rw [hq] at this; exact absurd rfl this
    · intro h
      exact any_no (d := (0 : Int)) fun j hj => by rw [h j hj]; rfl
  rw [hm, sortedI_iff]
  constructor
  · intro h
    refine ⟨fun i h0 hi => ?_, fun i hi => (h i hi).1⟩
    rcases (h i hi).2 with e | e
    · omega
    · omega
  · rintro ⟨h1, h2⟩ i hi
    refine ⟨h2 i hi, ?_⟩
    by_cases e : i = 0
    · exact .inl e
    · right
      have a := h1 i (by omega) hi
      have b := (hw i hi).2.2
      have : r.con.getD (i - 1) 0 ≠ r.con.getD i 0 := fun e2 => by
        have : hasI (r.con.take i) (r.con.getD i 0) = true := hasI_iff.2 ⟨i - 1, by rw [List.length_take]; omega, by rw [getD_take (by omega)]; exact e2⟩
        rw [this] at b; cases b
      omega
def rok0 (T : Tab) (r : Rt) (n : Nat) : Bool :=
  decide (0 ≤ r.sig) && (decide (r.sig < T.sigs) && (decide (0 < r.tr.length) && (withinI r.tr T.tracks && (withinI (ownP r) T.pts.length && (decide (-1 ≤ r.app) && (decide (r.app < T.tracks) && (!hasI r.tr r.app && (withinI r.con T.rts.length && !hasI r.con n))))))))
theorem rroute_eq (T : Tab) (n : Nat) : ((rok0 T (T.rts.getD n rt0) n && inPtsB T (T.rts.getD n rt0)) && rnearB T (T.rts.getD n rt0) n) = routeB T n := by
  unfold routeB rok0
  have e1 : (!decide ((T.rts.getD n rt0).sig < 0)) = decide (0 ≤ (T.rts.getD n rt0).sig) := by rw [← decide_not]; exact decide_eq_decide.2 (by omega)
  have e2 : (!decide (T.sigs ≤ (T.rts.getD n rt0).sig)) = decide ((T.rts.getD n rt0).sig < T.sigs) := by rw [← decide_not]; exact decide_eq_decide.2 (by omega)
  have e3 : (!((T.rts.getD n rt0).tr.length == 0)) = decide (0 < (T.rts.getD n rt0).tr.length) := by
    cases (T.rts.getD n rt0).tr.length <;> simp
  have e4 : (!decide ((T.rts.getD n rt0).app < -1)) = decide (-1 ≤ (T.rts.getD n rt0).app) := by rw [← decide_not]; exact decide_eq_decide.2 (by omega)
  have e5 : (!decide (T.tracks ≤ (T.rts.getD n rt0).app)) = decide ((T.rts.getD n rt0).app < T.tracks) := by rw [← decide_not]; exact decide_eq_decide.2 (by omega)
  rw [e1, e2, e3, e4, e5]
  by_cases hw : withinI (T.rts.getD n rt0).con (T.rts.length : Int) = true
  · rw [rnearB_eq hw, hw]
    generalize decide (0 ≤ (T.rts.getD n rt0).sig) = a1
    generalize decide ((T.rts.getD n rt0).sig < T.sigs) = a2
    generalize decide (0 < (T.rts.getD n rt0).tr.length) = a3
    generalize withinI (T.rts.getD n rt0).tr T.tracks = a4
    generalize withinI (ownP (T.rts.getD n rt0)) (T.pts.length : Int) = a5
    generalize decide (-1 ≤ (T.rts.getD n rt0).app) = a6
    generalize decide ((T.rts.getD n rt0).app < T.tracks) = a7
    generalize (!hasI (T.rts.getD n rt0).tr (T.rts.getD n rt0).app) = a8
    generalize (!hasI (T.rts.getD n rt0).con (n : Int)) = a9
    generalize inPtsB T (T.rts.getD n rt0) = b1
    generalize sortedI (T.rts.getD n rt0).con = b2
    generalize (!mutB T (T.rts.getD n rt0) n) = b3
    cases a1 <;> try rfl
    cases a2 <;> try rfl
    cases a3 <;> try rfl
    cases a4 <;> try rfl
    cases a5 <;> try rfl
    cases a6 <;> try rfl
    cases a7 <;> try rfl
    cases a8 <;> try rfl
    cases a9 <;> cases b1 <;> cases b2 <;> cases b3 <;> rfl
  · rw [Bool.eq_false_iff.2 hw]
    simp
/-- The boxes of route. -/
structure TW (w wr : World) (tb ab : Nat) (TV AV : Array Value) : Prop where
  t : wr.heap[tb]? = some (.cells TV 25 (0, 0))
  a : wr.heap[ab]? = some (.cells AV 30 (0, 0))
  bel : Below w.heap.size w wr
theorem TW.below {w wr wv : World} {tb ab : Nat} {TV AV : Array Value} (h : TW w wr tb ab TV AV) (hb : Below wr.heap.size wr wv) : TW w wv tb ab TV AV :=
  ⟨tb_kept h.t hb, tb_kept h.a hb, h.bel.trans (hb.mono h.bel.size)⟩
set_option maxRecDepth 100000 in
set_option maxHeartbeats 8000000 in
theorem rroute_any (v : Value) (T : Tab) (n : Nat) (w : World) (hT : TabAt w v T) (hn : n < T.rts.length) (hbig : ∀ r ∈ T.rts, r.pts.length ≤ 1000000) :
    Calls Tryz.prog 40 #[v, .int .i64 (n : Int)] w fun e w' => e = .returned (.bool (routeB T n)) ∧ Below w.heap.size w w' := by
  rw [← rroute_eq]
  obtain ⟨⟨vp, vr, rfl, hP, hr⟩, _, _⟩ := hT
  obtain ⟨a, c, C0, rfl, hlc, hcm, _⟩ := hr.at_
  obtain ⟨⟨va, vc, rfl, hvl, hvm, _⟩, _⟩ := id hP
  obtain ⟨rb, ro, C, rfl, hrb, hrc, hrr⟩ := hr.cells hn
  have hbA := hbig _ (getD_mem' (d := rt0) hn)
  have x0 := hrc 0 (by omega); have x1 := hrc 1 (by omega); have x2 := hrc 2 (by omega); have x3 := hrc 3 (by omega); have x4 := hrc 4 (by omega); have x5 := hrc 5 (by omega)
  rw [Nat.add_zero] at x0
  obtain ⟨A, hA⟩ : ∃ A, A = T.rts.getD n rt0 := ⟨_, rfl⟩
  rw [← hA] at hrr hbA ⊢
  obtain ⟨⟨ta, tc, ht, ht1, ht2, _⟩, _⟩ := id hrr.tr
  obtain ⟨⟨pa, pc, hp, hp1, hp2, _⟩, _⟩ := id hrr.pts
  obtain ⟨⟨ca, cc, hcn, hc1, hc2, _⟩, _⟩ := id hrr.con
  have HPO : Hid (∀ i, i < (ownP A).length → i64ok ((ownP A).getD i 0)) := fun i hi => by rw [ownP_len] at hi; rw [ownP_get A hi]; exact hrr.pts.ok i hi
  rw [hrr.sig] at x0; rw [ht] at x1; rw [hp] at x2; rw [hrr.app] at x3; rw [hcn] at x4; rw [hrr.hold] at x5
  have HTR : Hid (IntsAt w (.slice ta A.tr.length tc) A.tr) := ht ▸ hrr.tr
  have HPT : Hid (PtsAt w (.slice pa A.pts.length pc) A.pts) := hp ▸ hrr.pts
  have HCN : Hid (IntsAt w (.slice ca A.con.length cc) A.con) := hcn ▸ hrr.con
  have hcz := HCN.out.size; have htz := HTR.out.size; have hnz := hr.size
  have HR := Lib.hid hr; have HP := Lib.hid hP; have HA := Lib.hid hA
  obtain ⟨w1, hw1⟩ : ∃ w1, w1 = w.alloc (.cells #[.int .i64 T.tracks, .slice va T.pts.length vc, .int .i64 T.sigs, .slice (some ⟨rb, ro, none⟩) T.rts.length c] 25) := ⟨_, rfl⟩
  have B1 : Hid (Below w.heap.size w w1) := by rw [hw1]; exact tb_alloc_below _ _
  have K1 : Hid (w1.heap[w.heap.size]? = some (.cells #[.int .i64 T.tracks, .slice va T.pts.length vc, .int .i64 T.sigs, .slice (some ⟨rb, ro, none⟩) T.rts.length c] 25 (0, 0))) := by rw [hw1]; exact heap_alloc_new _ _
  obtain ⟨w2, hw2⟩ : ∃ w2, w2 = w1.alloc (.cells #[.int .i64 A.sig, .slice ta A.tr.length tc, .slice pa A.pts.length pc, .int .i64 A.app, .slice ca A.con.length cc, .int .u16 (A.hold : Int)] 30) := ⟨_, rfl⟩
  have B12 : Hid (Below w1.heap.size w1 w2) := by rw [hw2]; exact tb_alloc_below _ _
  have P2 : Hid (TW w w2 w.heap.size w1.heap.size #[.int .i64 T.tracks, .slice va T.pts.length vc, .int .i64 T.sigs, .slice (some ⟨rb, ro, none⟩) T.rts.length c] #[.int .i64 A.sig, .slice ta A.tr.length tc, .slice pa A.pts.length pc, .int .i64 A.app, .slice ca A.con.length cc, .int .u16 (A.hold : Int)]) := ⟨tb_kept K1.out B12.out, by rw [hw2]; exact heap_alloc_new _ _, B1.out.trans (B12.out.mono B1.out.size)⟩
  have HW1 := Lib.hid hw1; have HW2 := Lib.hid hw2
  have x0 := (B1.out.cell hrb).trans x0; have x1 := (B1.out.cell hrb).trans x1; have x2 := (B1.out.cell hrb).trans x2; have x3 := (B1.out.cell hrb).trans x3; have x4 := (B1.out.cell hrb).trans x4; have x5 := (B1.out.cell hrb).trans x5
  have lr : rb < w1.heap.size := Nat.lt_of_lt_of_le hrb B1.out.size
  obtain ⟨i0, hi, hz0, hz1, hz2⟩ := tb_info infoI
  have HIn := Lib.hid hi; have HZ0 := Lib.hid hz0; have HZ1 := Lib.hid hz1; have HZ2 := Lib.hid hz2
  unfold maxLen at hvm hcm ht2 hp2 hc2 hcz htz hnz
  obtain ⟨tb, htb⟩ : ∃ b, b = w.heap.size := ⟨_, rfl⟩
  obtain ⟨ab, hab⟩ : ∃ b, b = w1.heap.size := ⟨_, rfl⟩
  have HTB := Lib.hid htb; have HAB := Lib.hid hab
  rw [← htb, ← hab] at P2
  have HRB := Lib.hid hrb
  have t3 := cell_row (j := 3) K1.out rfl
  have lt := heap_lt K1.out
  have HLN := Lib.hid hn
  clear hi hz0 hz1 hz2 hw1 hw2 htb hab hP hr hrr hrc hA ht hp hcn hrb hbig
  obtain ⟨F, hF⟩ : ∃ F, F = ((rok0 T A n && inPtsB T A) && rnearB T A n) := ⟨_, rfl⟩
  rw [← hF]
  have HF := Lib.hid hF
  clear hF
  go_enter Tryz.func40, Tryz.ntmps40
  go_upto_region 1 with fail
  rw [← HW1.out]
  go_upto_region 2 with fail
  rw [← HW2.out, ← HAB.out, ← HTB.out]
  clear x0 x1 x2 x3 x4 x5 lr t3 lt K1 B1 B12 HW1 HW2
  go_wp2_with fail
  go_loopw [6, 7] (fun o i wr => ∃ (k : Nat) (v3 : Value), v3 = o ∧ k ≤ A.pts.length ∧ i = .int .i64 k ∧ wr.ownsRow w2.heap.size 3 1 v3 k (ownVs A k) ∧ Below w2.heap.size w2 wr) (fun _ i _ => A.pts.length - (intOf i).toNat)
  case atStart => exact ⟨0, _, rfl, Nat.zero_le _, rfl, ⟨rfl, .inl ⟨rfl, rfl⟩⟩, Below.refl _ _⟩
  case round =>
    obtain ⟨k, v3, rfl, hk, rfl, ho, hb⟩ := hrel
    have O2 := Lib.hid ho; have B2 := Lib.hid hb
    have P3 := Lib.hid (P2.out.below hb)
    clear ho hb
    have a2 := cell_row (j := 2) P3.out.a rfl
    have la := heap_lt P3.out.a
    by_cases hlt : k < A.pts.length
    case pos =>
      obtain ⟨b, off, rfl, hb, x0, x1⟩ := (HPT.out.below P3.out.bel).cell hlt
      have HTK := Lib.hid (ownP_take hlt)
      generalize A.pts.getD k (0, false) = p at *
      obtain ⟨y, z⟩ := p
      simp only at x0 x1 HTK
      have HO := Lib.hid (O2.out.alloc (.cells #[.int .i64 y] 3))
      have HZ : Hid (w2.heap.size ≤ wr.heap.size) := B2.out.size
      clear x1
      go_wp2_with (at_builtin; refine wpList_append_own_at _ rfl _ _ 22 rfl w2.heap.size 3 i0 (.int .i64 0) 1 8 Tryz.underlying22 HIn.out HZ0.out HZ1.out HZ2.out rfl (by decide) v3 k _ rfl HO.out ⟨wr.heap.size, 0, none⟩ 1 1 [.int .i64 y] rfl rfl (cell_one_new _ _ _) (fun u hu => by simp at hu; subst hu; rfl) (by unfold maxLen; omega) (by omega) (by simp; have := HZ.out; omega) ?_)
      intro v4 w4 ho4 hg4 _ _
      have B4 : Hid (Below w2.heap.size w2 w4) := (B2.out.alloc B2.out.size _).grown hg4 (by simp; have := HZ.out; omega) (fun k hk => (O2.out.lt k hk).1)
      rw [← HTK.out] at ho4
      have O4 := Lib.hid ho4
      clear ho4 hg4 HO O2 a2 la x0 hb
      go_wp2_with fail
      go_roundw
      case rel => exact ⟨k + 1, _, rfl, by omega, by go_num, O4.out, B4.out⟩
      case measure => simp [intOf]; omega
    case neg =>
    obtain rfl : k = A.pts.length := by omega
    have HOW : Hid (IntsAt wr v3 (ownP A)) := own_ints (B := w2.heap.size) (e := 3) (by
      have := O2.out
      unfold ownVs at this
      rw [show (ownP A).take A.pts.length = ownP A by rw [← ownP_len]; exact List.take_length] at this
      rw [ownP_len]; exact this) HPO.out
    obtain ⟨⟨oa, oc, hov, ho1, ho2, _⟩, _⟩ := id HOW.out
    subst hov
    clear O2 B2 P2
    unfold maxLen at ho2
    obtain ⟨w5, hw5⟩ : ∃ x : World, x = wr := ⟨_, rfl⟩
    rw [← hw5] at HOW P3 a2 la ⊢
    clear hw5
    obtain ⟨F0, hF0⟩ : ∃ F, F = rok0 T A n := ⟨_, rfl⟩
    rw [← hF0] at HF
    have HF0 : Hid (F0 = (decide (0 ≤ A.sig) && (decide (A.sig < T.sigs) && (decide (0 < A.tr.length) && (withinI A.tr T.tracks && (withinI (ownP A) T.pts.length && (decide (-1 ≤ A.app) && (decide (A.app < T.tracks) && (!hasI A.tr A.app && (withinI A.con T.rts.length && !hasI A.con n)))))))))) := hF0
    clear hF0
    go_upto_region 7 with fail
    clear a2 la
    go_cut [8] from 32 (fun o wx => o = .bool F0 ∧ TW w wx tb ab #[.int .i64 T.tracks, .slice va T.pts.length vc, .int .i64 T.sigs, .slice (some ⟨rb, ro, none⟩) T.rts.length c] #[.int .i64 A.sig, .slice ta A.tr.length tc, .slice pa A.pts.length pc, .int .i64 A.app, .slice ca A.con.length cc, .int .u16 (A.hold : Int)] ∧ Below w5.heap.size w5 wx)
    case first =>
      have HTRw := Lib.hid (HTR.out.below P3.out.bel); have HCNw := Lib.hid (HCN.out.below P3.out.bel)
      have HO1 := Lib.hid (fun W (hW : Below w5.heap.size w5 W) => once_any _ A.tr T.tracks W (HTRw.out.below hW))
      have HO2 := Lib.hid (fun W (hW : Below w5.heap.size w5 W) => once_any _ (ownP A) T.pts.length W (HOW.out.below hW))
      have HO3 := Lib.hid (fun W (hW : Below w5.heap.size w5 W) => rhas_any _ A.tr A.app W (HTRw.out.below hW))
      have HO4 := Lib.hid (fun W (hW : Below w5.heap.size w5 W) => once_any _ A.con T.rts.length W (HCNw.out.below hW))
      have HO5 := Lib.hid (fun W (hW : Below w5.heap.size w5 W) => rhas_any _ A.con n W (HCNw.out.below hW))
      clear HTRw HCNw
      have B5 : Hid (Below w5.heap.size w5 w5) := Below.refl _ _
      generalize withinI A.tr T.tracks = b1 at *
      generalize withinI (ownP A) (T.pts.length : Int) = b2 at *
      generalize hasI A.tr A.app = b3 at *
      generalize withinI A.con (T.rts.length : Int) = b4 at *
      generalize hasI A.con (n : Int) = b5 at *
      have t0 := cell_row (j := 0) P3.out.t rfl; have t1 := cell_row (j := 1) P3.out.t rfl; have t2 := cell_row (j := 2) P3.out.t rfl; have t3 := cell_row (j := 3) P3.out.t rfl
      have a0 := cell_row (j := 0) P3.out.a rfl; have a1 := cell_row (j := 1) P3.out.a rfl; have a3 := cell_row (j := 3) P3.out.a rfl; have a4 := cell_row (j := 4) P3.out.a rfl
      have lt := heap_lt P3.out.t; have la := heap_lt P3.out.a
      cases s1 : decide (0 ≤ A.sig)
      case false =>
        have HX : Hid (F0 = false) := by show _ = _; rw [HF0.out, s1]; rfl
        go_wp2_with fail
        clear t0 t1 t2 t3 a0 a1 a3 a4 lt la
        go_meet
        case rel => exact ⟨congrArg Value.bool HX.out.symm, P3.out, B5.out⟩
      case true =>
      rw [s1, Bool.true_and] at HF0
      cases s2 : decide (A.sig < T.sigs)
      case false =>
        have HX : Hid (F0 = false) := by show _ = _; rw [HF0.out, s2]; rfl
        go_wp2_with fail
        clear t0 t1 t2 t3 a0 a1 a3 a4 lt la
        go_meet
        case rel => exact ⟨congrArg Value.bool HX.out.symm, P3.out, B5.out⟩
      case true =>
      rw [s2, Bool.true_and] at HF0
      cases s3 : decide (0 < A.tr.length)
      case false =>
        have s3' : decide ((0 : Int) < (A.tr.length : Int)) = false := by simp at s3 ⊢; omega
        have HX : Hid (F0 = false) := by show _ = _; rw [HF0.out, s3]; rfl
        go_wp2_with fail
        clear t0 t1 t2 t3 a0 a1 a3 a4 lt la
        go_meet
        case rel => exact ⟨congrArg Value.bool HX.out.symm, P3.out, B5.out⟩
      case true =>
      have s3' : decide ((0 : Int) < (A.tr.length : Int)) = true := by simp at s3 ⊢; omega
      rw [s3, Bool.true_and] at HF0
      go_wp2_with fail
      refine (HO1.out _ B5.out).mono ?_
      rintro e w6 ⟨rfl, hb⟩
      have P6 := Lib.hid (P3.out.below hb)
      have B6 : Hid (Below w5.heap.size w5 w6) := B5.out.trans (hb.mono B5.out.size)
      clear t0 t1 t2 t3 a0 a1 a3 a4 lt la
      clear hb HO1
      cases b1
      case false =>
        have HX : Hid (F0 = false) := HF0.out
        go_wp2_with fail
        go_meet
        case rel => exact ⟨congrArg Value.bool HX.out.symm, P6.out, B6.out⟩
      case true =>
      rw [Bool.true_and] at HF0
      have t0 := cell_row (j := 0) P6.out.t rfl; have t1 := cell_row (j := 1) P6.out.t rfl; have t2 := cell_row (j := 2) P6.out.t rfl; have t3 := cell_row (j := 3) P6.out.t rfl
      have a0 := cell_row (j := 0) P6.out.a rfl; have a1 := cell_row (j := 1) P6.out.a rfl; have a3 := cell_row (j := 3) P6.out.a rfl; have a4 := cell_row (j := 4) P6.out.a rfl
      have lt := heap_lt P6.out.t; have la := heap_lt P6.out.a
      go_wp2_with fail
      refine (HO2.out _ B6.out).mono ?_
      rintro e w7 ⟨rfl, hb⟩
      have P7 := Lib.hid (P6.out.below hb)
      have B7 : Hid (Below w5.heap.size w5 w7) := B6.out.trans (hb.mono B6.out.size)
      clear t0 t1 t2 t3 a0 a1 a3 a4 lt la
      clear hb HO2
      cases b2
      case false =>
        have HX : Hid (F0 = false) := HF0.out
        go_wp2_with fail
        go_meet
        case rel => exact ⟨congrArg Value.bool HX.out.symm, P7.out, B7.out⟩
      case true =>
      rw [Bool.true_and] at HF0
      have t0 := cell_row (j := 0) P7.out.t rfl; have t1 := cell_row (j := 1) P7.out.t rfl; have t2 := cell_row (j := 2) P7.out.t rfl; have t3 := cell_row (j := 3) P7.out.t rfl
      have a0 := cell_row (j := 0) P7.out.a rfl; have a1 := cell_row (j := 1) P7.out.a rfl; have a3 := cell_row (j := 3) P7.out.a rfl; have a4 := cell_row (j := 4) P7.out.a rfl
      have lt := heap_lt P7.out.t; have la := heap_lt P7.out.a
      cases s4 : decide (-1 ≤ A.app)
      case false =>
        have HX : Hid (F0 = false) := by show _ = _; rw [HF0.out, s4]; rfl
        go_wp2_with fail
        clear t0 t1 t2 t3 a0 a1 a3 a4 lt la
        go_meet
        case rel => exact ⟨congrArg Value.bool HX.out.symm, P7.out, B7.out⟩
      case true =>
      rw [s4, Bool.true_and] at HF0
      cases s5 : decide (A.app < T.tracks)
      case false =>
        have HX : Hid (F0 = false) := by show _ = _; rw [HF0.out, s5]; rfl
        go_wp2_with fail
        clear t0 t1 t2 t3 a0 a1 a3 a4 lt la
        go_meet
        case rel => exact ⟨congrArg Value.bool HX.out.symm, P7.out, B7.out⟩
      case true =>
      rw [s5, Bool.true_and] at HF0
      go_wp2_with fail
      refine (HO3.out _ B7.out).mono ?_
      rintro e w8 ⟨rfl, rfl⟩
      clear HO3
      cases b3
      case true =>
        have HX : Hid (F0 = false) := HF0.out
        go_wp2_with fail
        clear t0 t1 t2 t3 a0 a1 a3 a4 lt la
        go_meet
        case rel => exact ⟨congrArg Value.bool HX.out.symm, P7.out, B7.out⟩
      case false =>
      rw [Bool.not_false, Bool.true_and] at HF0
      go_wp2_with fail
      refine (HO4.out _ B7.out).mono ?_
      rintro e w9 ⟨rfl, hb⟩
      have P9 := Lib.hid (P7.out.below hb)
      have B9 : Hid (Below w5.heap.size w5 w9) := B7.out.trans (hb.mono B7.out.size)
      clear t0 t1 t2 t3 a0 a1 a3 a4 lt la
      clear hb HO4
      cases b4
      case false =>
        have HX : Hid (F0 = false) := HF0.out
        go_wp2_with fail
        go_meet
        case rel => exact ⟨congrArg Value.bool HX.out.symm, P9.out, B9.out⟩
      case true =>
      rw [Bool.true_and] at HF0
      have t0 := cell_row (j := 0) P9.out.t rfl; have t1 := cell_row (j := 1) P9.out.t rfl; have t2 := cell_row (j := 2) P9.out.t rfl; have t3 := cell_row (j := 3) P9.out.t rfl
      have a0 := cell_row (j := 0) P9.out.a rfl; have a1 := cell_row (j := 1) P9.out.a rfl; have a3 := cell_row (j := 3) P9.out.a rfl; have a4 := cell_row (j := 4) P9.out.a rfl
      have lt := heap_lt P9.out.t; have la := heap_lt P9.out.a
      go_wp2_with fail
      refine (HO5.out _ B9.out).mono ?_
      rintro e w10 ⟨rfl, rfl⟩
      clear HO5
      go_wp2_with fail
      clear t0 t1 t2 t3 a0 a1 a3 a4 lt la
      go_meet
      case rel => exact ⟨congrArg Value.bool HF0.out.symm, P9.out, B9.out⟩
    case rest =>
      obtain ⟨rfl, hp, hb⟩ := hcut
      have P4 := Lib.hid hp; have B4 := Lib.hid hb
      clear hp hb P3
      have HW4 : Hid (F0 = true → withinI A.con (T.rts.length : Int) = true) := fun h => by
        rw [HF0.out] at h
        simp only [Bool.and_eq_true] at h
        exact h.2.2.2.2.2.2.2.2.1
      clear HF0
      have HTRw := Lib.hid (fun W (hW : Below w.heap.size w W) => HTR.out.below hW)
      obtain ⟨I, hI⟩ : ∃ I : Nat → Bool, I = fun k => (F0 && (List.range k).all fun p => !hasI A.tr (T.pts.getD p 0) || hasI (ownP A) (p : Int)) := ⟨_, rfl⟩
      have HI0 : Hid (I 0 = F0) := by show _ = _; rw [hI]; simp
      have HI1 : Hid (∀ k, I (k + 1) = (I k && (!hasI A.tr (T.pts.getD k 0) || hasI (ownP A) (k : Int)))) := by
        show ∀ k, _
        intro k; rw [hI]; simp only [List.range_succ, List.all_append, List.all_cons, List.all_nil, Bool.and_true, Bool.and_assoc]
      have HIF : Hid (I T.pts.length = (F0 && inPtsB T A)) := by show _ = _; rw [hI]; rfl
      clear hI
      rw [← HIF.out] at HF
      rw [← HI0.out]
      go_wp2_with fail
      go_loopw [8, 9] (fun o p wr => ∃ k : Nat, k ≤ T.pts.length ∧ o = .bool (I k) ∧ p = .int .i64 k ∧ TW w wr tb ab #[.int .i64 T.tracks, .slice va T.pts.length vc, .int .i64 T.sigs, .slice (some ⟨rb, ro, none⟩) T.rts.length c] #[.int .i64 A.sig, .slice ta A.tr.length tc, .slice pa A.pts.length pc, .int .i64 A.app, .slice ca A.con.length cc, .int .u16 (A.hold : Int)] ∧ Below w5.heap.size w5 wr) (fun _ p _ => T.pts.length - (intOf p).toNat)
      case atStart => exact ⟨0, Nat.zero_le _, rfl, rfl, P4.out, B4.out⟩
      case round =>
        clear P4 B4
        obtain ⟨k, hk, rfl, rfl, hp, hb⟩ := hrel
        have P5 := Lib.hid hp; have B5 := Lib.hid hb
        clear hp hb
        have t1 := cell_row (j := 1) P5.out.t rfl; have a1 := cell_row (j := 1) P5.out.a rfl
        have lt := heap_lt P5.out.t; have la := heap_lt P5.out.a
        by_cases hlt : k < T.pts.length
        case pos =>
          obtain ⟨b, off, rfl, hb, x0⟩ := (HP.out.below P5.out.bel).cell hlt
          have HC1 := Lib.hid (rhas_q _ A.tr (T.pts.getD k 0) wr (HTR.out.below P5.out.bel))
          have HC2 := Lib.hid (rhas_q _ (ownP A) (k : Int) wr (HOW.out.below B5.out))
          have HX := Lib.hid (HI1.out k)
          generalize I k = g at *
          generalize hasI A.tr (T.pts.getD k 0) = h1 at *
          generalize hasI (ownP A) (k : Int) = h2 at *
          generalize T.pts.getD k 0 = y at *
          go_upto_region 11 with fail
          cases g
          case false =>
            have HX2 : Hid (false = I (k + 1)) := by show _ = _; rw [HX.out]; rfl
            go_quiet ((go_at_call 41; first | (with_reducible exact HC1.out _) | (with_reducible exact HC2.out _)))
            have P6 := Lib.hid (P5.out.below (MW_drewN _ nq))
            have B6 : Hid (Below w5.heap.size w5 (wr.drewN nq)) := ⟨B5.out.os, B5.out.tape, B5.out.output, B5.out.size, B5.out.block⟩
            generalize wr.drewN nq = w6 at *
            clear t1 a1 lt la x0 hb HC1 HC2
            go_wp2_with fail
            go_roundw
            case rel => exact ⟨k + 1, by omega, congrArg Value.bool HX2.out, by go_num, P6.out, B6.out⟩
            case measure => simp [intOf]; omega
          case true =>
            cases h1
            case false =>
              have HX2 : Hid (true = I (k + 1)) := by show _ = _; rw [HX.out]; rfl
              go_quiet ((go_at_call 41; first | (with_reducible exact HC1.out _) | (with_reducible exact HC2.out _)))
              have P6 := Lib.hid (P5.out.below (MW_drewN _ nq))
              have B6 : Hid (Below w5.heap.size w5 (wr.drewN nq)) := ⟨B5.out.os, B5.out.tape, B5.out.output, B5.out.size, B5.out.block⟩
              generalize wr.drewN nq = w6 at *
              clear t1 a1 lt la x0 hb HC1 HC2
              go_wp2_with fail
              go_roundw
              case rel => exact ⟨k + 1, by omega, congrArg Value.bool HX2.out, by go_num, P6.out, B6.out⟩
              case measure => simp [intOf]; omega
            case true =>
              cases h2
              case false =>
                have HX2 : Hid (false = I (k + 1)) := by show _ = _; rw [HX.out]; rfl
                go_quiet ((go_at_call 41; first | (with_reducible exact HC1.out _) | (with_reducible exact HC2.out _)))
                have P6 := Lib.hid (P5.out.below (MW_drewN _ nq))
                have B6 : Hid (Below w5.heap.size w5 (wr.drewN nq)) := ⟨B5.out.os, B5.out.tape, B5.out.output, B5.out.size, B5.out.block⟩
                generalize wr.drewN nq = w6 at *
                clear t1 a1 lt la x0 hb HC1 HC2
                go_wp2_with fail
                go_roundw
                case rel => exact ⟨k + 1, by omega, congrArg Value.bool HX2.out, by go_num, P6.out, B6.out⟩
                case measure => simp [intOf]; omega
              case true =>
                have HX2 : Hid (true = I (k + 1)) := by show _ = _; rw [HX.out]; rfl
                go_quiet ((go_at_call 41; first | (with_reducible exact HC1.out _) | (with_reducible exact HC2.out _)))
                have P6 := Lib.hid (P5.out.below (MW_drewN _ nq))
                have B6 : Hid (Below w5.heap.size w5 (wr.drewN nq)) := ⟨B5.out.os, B5.out.tape, B5.out.output, B5.out.size, B5.out.block⟩
                generalize wr.drewN nq = w6 at *
                clear t1 a1 lt la x0 hb HC1 HC2
                go_wp2_with fail
                go_roundw
                case rel => exact ⟨k + 1, by omega, congrArg Value.bool HX2.out, by go_num, P6.out, B6.out⟩
                case measure => simp [intOf]; omega
        case neg =>
        obtain rfl : k = T.pts.length := by omega
        obtain ⟨G, hG⟩ : ∃ G, G = I T.pts.length := ⟨_, rfl⟩
        rw [← hG] at HF ⊢
        have HWG : Hid (G = true → withinI A.con (T.rts.length : Int) = true) := fun h => HW4.out (by
          rw [hG, HIF.out, Bool.and_eq_true] at h; exact h.1)
        clear a1 la hG HIF HI1 HI0 HW4
        obtain ⟨J, hJ⟩ : ∃ J : Nat → Bool, J = fun k => (G && (List.range k).all fun i => hasI (T.rts.getD (A.con.getD i 0).toNat rt0).con (n : Int) && (i == 0 || decide (A.con.getD (i - 1) 0 < A.con.getD i 0))) := ⟨_, rfl⟩
        have HJ0 : Hid (J 0 = G) := by show _ = _; rw [hJ]; simp
        have HJ1 : Hid (∀ k, J (k + 1) = (J k && (hasI (T.rts.getD (A.con.getD k 0).toNat rt0).con (n : Int) && (k == 0 || decide (A.con.getD (k - 1) 0 < A.con.getD k 0))))) := by
          show ∀ k, _
          intro k; rw [hJ]; simp only [List.range_succ, List.all_append, List.all_cons, List.all_nil, Bool.and_true, Bool.and_assoc]
        have HJF : Hid (J A.con.length = F) := by show _ = _; rw [HF.out, hJ]; rfl
        have HJM : Hid (∀ k, k ≤ A.con.length → J k = false → false = F) := by
          show ∀ k, _
          intro k hk h
          rw [← HJF.out]
          cases e : J A.con.length with
          | false => rfl
          | true =>
            exfalso
            rw [hJ, Bool.and_eq_true, List.all_eq_true] at e
            have : J k = true := by
              rw [hJ, Bool.and_eq_true, List.all_eq_true]
              exact ⟨e.1, fun i hi => e.2 i (List.mem_range.2 (by have := List.mem_range.1 hi; omega))⟩
            rw [this] at h; cases h
        have HJW : Hid (∀ k, J k = true → withinI A.con (T.rts.length : Int) = true) := by
          show ∀ k, _
          intro k h
          rw [hJ, Bool.and_eq_true] at h
          exact HWG.out h.1
        clear hJ HF HWG
        rw [← HJ0.out]
        go_wp2_with fail
        clear t1 lt
        go_loopw [8, 10] (fun o i wr => ∃ k : Nat, k ≤ A.con.length ∧ o = .bool (J k) ∧ i = .int .i64 k ∧ TW w wr tb ab #[.int .i64 T.tracks, .slice va T.pts.length vc, .int .i64 T.sigs, .slice (some ⟨rb, ro, none⟩) T.rts.length c] #[.int .i64 A.sig, .slice ta A.tr.length tc, .slice pa A.pts.length pc, .int .i64 A.app, .slice ca A.con.length cc, .int .u16 (A.hold : Int)]) (fun _ i _ => A.con.length - (intOf i).toNat)
        case atStart => exact ⟨0, Nat.zero_le _, rfl, rfl, P5.out⟩
        case round =>
          clear P5 B5
          obtain ⟨k, hk, rfl, rfl, hp⟩ := hrel
          have P5 := Lib.hid hp
          clear hp
          have t3 := cell_row (j := 3) P5.out.t rfl; have a4 := cell_row (j := 4) P5.out.a rfl
          have lt := heap_lt P5.out.t; have la := heap_lt P5.out.a
          by_cases hlt : k < A.con.length
          case pos =>
            have HX := Lib.hid (HJ1.out k)
            have HM := Lib.hid (HJM.out k hk)
            have HWk := Lib.hid (HJW.out k)
            generalize J k = g at *
            cases g
            case false =>
              have HM2 := Lib.hid (HM.out rfl)
              go_wp2_with fail
              go_ret
              exact ⟨congrArg (fun x => Ending.returned (.bool x)) HM2.out, P5.out.bel⟩
            case true =>
              have hq := withinI_iff.1 (HWk.out rfl) k hlt
              obtain ⟨q, hqe⟩ := Int.eq_ofNat_of_zero_le hq.1
              have hqn : q < T.rts.length := by have := hq.2.1; omega
              obtain ⟨cb, co, rfl, hcb, x0⟩ := (HCN.out.below P5.out.bel).cell hlt
              rw [hqe] at x0
              obtain ⟨rb', ro', C', e, hrb', hrc, hrr⟩ := HR.out.cells (i := q) hqn
              cases e
              have y4 := (P5.out.bel.cell hrb').trans (hrc 4 (by omega))
              obtain ⟨D, hD⟩ : ∃ D, D = T.rts.getD q rt0 := ⟨_, rfl⟩
              rw [← hD] at hrr
              obtain ⟨⟨da, dc, hdn, _⟩, _⟩ := hrr.con
              rw [hdn] at y4
              have HDC : Hid (IntsAt w (.slice da D.con.length dc) D.con) := hdn ▸ hrr.con
              have HC := Lib.hid (rhas_q _ D.con (n : Int) wr (HDC.out.below P5.out.bel))
              have HX3 : Hid (J (k + 1) = (hasI D.con (n : Int) && (k == 0 || decide (A.con.getD (k - 1) 0 < A.con.getD k 0)))) := by
                show _ = _
                rw [HX.out, Bool.true_and, hqe, hD]; rfl
              have lr : rb < wr.heap.size := Nat.lt_of_lt_of_le HRB.out P5.out.bel.size
              have HQE := Lib.hid hqe
              clear hq hqe hD hdn hrr hrc hrb' HX HM HWk
              generalize hasI D.con (n : Int) = h at *
              go_upto_region 15 with fail
              cases h
              case false =>
                have HX2 : Hid (false = J (k + 1)) := by show _ = _; rw [HX3.out]; rfl
                go_quiet ((go_at_call 41; (with_reducible exact HC.out _)))
                have P6 := Lib.hid (P5.out.below (MW_drewN _ nq))
                generalize wr.drewN nq = w6 at *
                clear t3 a4 lt la x0 y4 hcb lr HC
                go_wp2_with fail
                go_roundw
                case rel => exact ⟨_, hlt, congrArg Value.bool HX2.out, by go_num, P6.out⟩
                case measure => simp [intOf]; omega
              case true =>
                by_cases hk0 : k = 0
                case pos =>
                  subst hk0
                  rw [Nat.add_zero] at x0
                  have HX2 : Hid (true = J (0 + 1)) := by show _ = _; rw [HX3.out]; rfl
                  go_quiet ((go_at_call 41; (with_reducible exact HC.out _)))
                  have P6 := Lib.hid (P5.out.below (MW_drewN _ nq))
                  generalize wr.drewN nq = w6 at *
                  clear t3 a4 lt la x0 y4 hcb lr HC
                  go_wp2_with fail
                  go_roundw
                  case rel => exact ⟨_, hlt, congrArg Value.bool HX2.out, by go_num, P6.out⟩
                  case measure => simp [intOf]; omega
                case neg =>
                  obtain ⟨j, hj⟩ : ∃ j, k = j + 1 := ⟨k - 1, by omega⟩
                  have hjk : j < A.con.length := by omega
                  obtain ⟨_, _, e, _, z0⟩ := (HCN.out.below P5.out.bel).cell hjk
                  cases e
                  have HX4 : Hid (J (k + 1) = decide (A.con.getD j 0 < (q : Int))) := by
                    show _ = _
                    rw [HX3.out, HQE.out, hj]; rfl
                  have hk1 : (k : Int) - 1 = (j : Int) := by omega
                  have tk : ((k : Int) == 0) = false := by simp; omega
                  generalize A.con.getD j 0 = y at *
                  clear hj hk0
                  cases hd : decide (y < (q : Int))
                  case false =>
                    have HX2 : Hid (false = J (k + 1)) := by show _ = _; rw [HX4.out, hd]
                    go_quiet ((go_at_call 41; (with_reducible exact HC.out _)))
                    have P6 := Lib.hid (P5.out.below (MW_drewN _ nq))
                    generalize wr.drewN nq = w6 at *
                    clear t3 a4 lt la x0 y4 hcb lr HC
                    go_wp2_with fail
                    go_roundw
                    case rel => exact ⟨_, hlt, congrArg Value.bool HX2.out, by go_num, P6.out⟩
                    case measure => simp [intOf]; omega
                  case true =>
                    have HX2 : Hid (true = J (k + 1)) := by show _ = _; rw [HX4.out, hd]
                    go_quiet ((go_at_call 41; (with_reducible exact HC.out _)))
                    have P6 := Lib.hid (P5.out.below (MW_drewN _ nq))
                    generalize wr.drewN nq = w6 at *
                    clear t3 a4 lt la x0 y4 hcb lr HC
                    go_wp2_with fail
                    go_roundw
                    case rel => exact ⟨_, hlt, congrArg Value.bool HX2.out, by go_num, P6.out⟩
                    case measure => simp [intOf]; omega
          case neg =>
          obtain rfl : k = A.con.length := by omega
          rw [HJF.out]
          go_wp2_with fail
          go_ret
          exact ⟨rfl, P5.out.bel⟩
end Go.Proofs.YtpodedhnlicckaaGreatDoor
/- The document's table: Check. -/
namespace Go.Proofs.YtpodedhnlicckaaGreatDoor
open Go.RowKit
set_option linter.unusedVariables false
set_option linter.unusedSimpArgs false
/-- The box of Check. -/
def rsize (T : Tab) : Bool := decide (1 ≤ T.tracks) && (decide (T.tracks ≤ 24) && (decide (T.pts.length ≤ 12) && (decide (1 ≤ T.sigs) && (decide (T.sigs ≤ 12) && (decide (1 ≤ T.rts.length) && decide (T.rts.length ≤ 16))))))
theorem rsize_eq (T : Tab) : rsize T = sizesB T := by
  unfold rsize sizesB
  have e1 : (!decide (T.tracks < 1)) = decide (1 ≤ T.tracks) := by rw [← decide_not]; exact decide_eq_decide.2 (by omega)
  have e2 : (!decide (24 < T.tracks)) = decide (T.tracks ≤ 24) := by rw [← decide_not]; exact decide_eq_decide.2 (by omega)
  have e3 : (!decide (12 < T.pts.length)) = decide (T.pts.length ≤ 12) := by rw [← decide_not]; exact decide_eq_decide.2 (by omega)
  have e4 : (!decide (T.sigs < 1)) = decide (1 ≤ T.sigs) := by rw [← decide_not]; exact decide_eq_decide.2 (by omega)
  have e5 : (!decide (12 < T.sigs)) = decide (T.sigs ≤ 12) := by rw [← decide_not]; exact decide_eq_decide.2 (by omega)
  have e6 : (!decide (T.rts.length < 1)) = decide (1 ≤ T.rts.length) := by rw [← decide_not]; exact decide_eq_decide.2 (by omega)
  have e7 : (!decide (16 < T.rts.length)) = decide (T.rts.length ≤ 16) := by rw [← decide_not]; exact decide_eq_decide.2 (by omega)
  rw [e1, e2, e3, e4, e5, e6, e7]
def rpt (t x : Int) : Bool := decide (0 ≤ x) && decide (x < t)
theorem rpt_eq (t x : Int) : rpt t x = !outB t x := by
  unfold rpt outB
  rw [Bool.not_or, ← decide_not, ← decide_not]
  congr 1
  · exact decide_eq_decide.2 (by omega)
  · exact decide_eq_decide.2 (by omega)
theorem all_range {α : Type} (l : List α) (d : α) (p : α → Bool) : ((List.range l.length).all fun i => p (l.getD i d)) = l.all p := by
  rw [Bool.eq_iff_iff, List.all_eq_true, List.all_eq_true]
  constructor
  · intro h x hx
    obtain ⟨i, hi, rfl⟩ := List.mem_iff_getElem.1 hx
    have := h i (List.mem_range.2 hi)
    rwa [List.getD_eq_getElem?_getD, List.getElem?_eq_getElem hi] at this
  · intro h i hi
    exact h _ (getD_mem' (List.mem_range.1 hi))
theorem rpts_eq (T : Tab) : ((List.range T.pts.length).all fun i => rpt T.tracks (T.pts.getD i 0)) = ptsB T := by
  rw [all_range T.pts 0 (rpt T.tracks)]
  unfold ptsB
  rw [List.not_any_eq_all_not]
  congr 1; funext x; exact rpt_eq _ _
theorem missB_all {T : Tab} {n : Nat} : declB T n = ((List.range (confL T n T.rts.length).length).all fun i => hasI (T.rts.getD n rt0).con ((confL T n T.rts.length).getD i 0)) := by
  rw [all_range (confL T n T.rts.length) 0 (fun k => hasI (T.rts.getD n rt0).con k)]
  unfold declB
  rw [List.not_any_eq_all_not]
  congr 1; funext x
  unfold missB
  rw [Bool.not_not]
set_option maxRecDepth 100000 in
set_option maxHeartbeats 8000000 in
theorem rcheck_any (v : Value) (T : Tab) (w : World) (hT : TabAt w v T) (hbig : ∀ r ∈ T.rts, r.pts.length ≤ 1000000) :
    Calls Tryz.prog 17 #[v] w fun e w' => e = .returned (.int .i64 (checkE T)) ∧ Below w.heap.size w w' := by
  have hT0 := hT
  obtain ⟨⟨vp, vr, rfl, hP, hr⟩, _, _⟩ := hT
  obtain ⟨a, c, C0, rfl, hlc, hcm, _⟩ := hr.at_
  obtain ⟨⟨va, vc, rfl, hvl, hvm, _⟩, _⟩ := id hP
  have HT := Lib.hid hT0; have HP := Lib.hid hP; have HR := Lib.hid hr; have HB := Lib.hid hbig
  have hnz := hr.size; have hpz := hP.size
  obtain ⟨w1, hw1⟩ : ∃ w1, w1 = w.alloc (.cells #[.int .i64 T.tracks, .slice va T.pts.length vc, .int .i64 T.sigs, .slice a T.rts.length c] 25) := ⟨_, rfl⟩
  have B1 : Hid (Below w.heap.size w w1) := by rw [hw1]; exact tb_alloc_below _ _
  have K1 : Hid (w1.heap[w.heap.size]? = some (.cells #[.int .i64 T.tracks, .slice va T.pts.length vc, .int .i64 T.sigs, .slice a T.rts.length c] 25 (0, 0))) := by rw [hw1]; exact heap_alloc_new _ _
  have HW1 := Lib.hid hw1
  obtain ⟨E, hE⟩ : ∃ E, E = checkE T := ⟨_, rfl⟩
  rw [← hE]
  have HE : Hid (E = if (sizesB T && (ptsB T && routesB T)) = false then 260 else if declsB T = false then 261 else 0) := hE
  unfold maxLen at hvm hcm hnz hpz
  obtain ⟨tb, htb⟩ : ∃ b, b = w.heap.size := ⟨_, rfl⟩
  have HTB := Lib.hid htb
  rw [← htb] at K1
  obtain ⟨F0, hF0⟩ : ∃ F, F = sizesB T := ⟨_, rfl⟩
  have HF0 : Hid (F0 = (decide (1 ≤ T.tracks) && (decide (T.tracks ≤ 24) && (decide (T.pts.length ≤ 12) && (decide (1 ≤ T.sigs) && (decide (T.sigs ≤ 12) && (decide (1 ≤ T.rts.length) && decide (T.rts.length ≤ 16)))))))) := by show _ = _; rw [hF0, ← rsize_eq]; rfl
  have HFS := Lib.hid hF0
  clear hT0 hP hr hbig hw1 hE htb hF0
  go_enter Tryz.func17, Tryz.ntmps17
  go_upto_region 1 with fail
  rw [← HW1.out, ← HTB.out]
  clear HW1
  go_cut [3] from 9 (fun o wx => o = .bool F0 ∧ Below w1.heap.size w1 wx)
  case first =>
    have t0 := cell_row (j := 0) K1.out rfl; have t1 := cell_row (j := 1) K1.out rfl; have t2 := cell_row (j := 2) K1.out rfl; have t3 := cell_row (j := 3) K1.out rfl
    have lt := heap_lt K1.out
    cases s1 : decide (1 ≤ T.tracks)
    case false =>
      have HX : Hid (F0 = false) := by show _ = _; rw [HF0.out, s1]; rfl
      go_wp2_with fail
      go_meet
      case rel => exact ⟨congrArg Value.bool HX.out.symm, Below.refl _ _⟩
    case true =>
    rw [s1, Bool.true_and] at HF0
    cases s2 : decide (T.tracks ≤ 24)
    case false =>
      have HX : Hid (F0 = false) := by show _ = _; rw [HF0.out, s2]; rfl
      go_wp2_with fail
      go_meet
      case rel => exact ⟨congrArg Value.bool HX.out.symm, Below.refl _ _⟩
    case true =>
    rw [s2, Bool.true_and] at HF0
    cases s3 : decide (T.pts.length ≤ 12)
    case false =>
      have HX : Hid (F0 = false) := by show _ = _; rw [HF0.out, s3]; rfl
      have e3 : decide ((T.pts.length : Int) ≤ 12) = false := by simp at s3 ⊢; omega
      go_wp2_with fail
      go_meet
      case rel => exact ⟨congrArg Value.bool HX.out.symm, Below.refl _ _⟩
    case true =>
    have e3 : decide ((T.pts.length : Int) ≤ 12) = true := by simp at s3 ⊢; omega
    rw [s3, Bool.true_and] at HF0
    cases s4 : decide (1 ≤ T.sigs)
    case false =>
      have HX : Hid (F0 = false) := by show _ = _; rw [HF0.out, s4]; rfl
      go_wp2_with fail
      go_meet
      case rel => exact ⟨congrArg Value.bool HX.out.symm, Below.refl _ _⟩
    case true =>
    rw [s4, Bool.true_and] at HF0
    cases s5 : decide (T.sigs ≤ 12)
    case false =>
      have HX : Hid (F0 = false) := by show _ = _; rw [HF0.out, s5]; rfl
      go_wp2_with fail
      go_meet
      case rel => exact ⟨congrArg Value.bool HX.out.symm, Below.refl _ _⟩
    case true =>
    rw [s5, Bool.true_and] at HF0
    cases s6 : decide (1 ≤ T.rts.length)
    case false =>
      have HX : Hid (F0 = false) := by show _ = _; rw [HF0.out, s6]; rfl
      have e6 : decide ((1 : Int) ≤ (T.rts.length : Int)) = false := decide_eq_false (by have := of_decide_eq_false s6; omega)
      go_wp2_with fail
      go_meet
      case rel => exact ⟨congrArg Value.bool HX.out.symm, Below.refl _ _⟩
    case true =>
    have e6 : decide ((1 : Int) ≤ (T.rts.length : Int)) = true := by simp at s6 ⊢; omega
    rw [s6, Bool.true_and] at HF0
    cases s7 : decide (T.rts.length ≤ 16)
    case false =>
      have HX : Hid (F0 = false) := by show _ = _; rw [HF0.out, s7]
      have e7 : decide ((T.rts.length : Int) ≤ 16) = false := by simp at s7 ⊢; omega
      go_wp2_with fail
      go_meet
      case rel => exact ⟨congrArg Value.bool HX.out.symm, Below.refl _ _⟩
    case true =>
    have e7 : decide ((T.rts.length : Int) ≤ 16) = true := by simp at s7 ⊢; omega
    have HX : Hid (F0 = true) := by show _ = _; rw [HF0.out, s7]
    go_wp2_with fail
    go_meet
    case rel => exact ⟨congrArg Value.bool HX.out.symm, Below.refl _ _⟩
  case rest =>
    obtain ⟨rfl, hb⟩ := hcut
    have B2 := Lib.hid hb
    have HN16 : Hid (F0 = true → 1 ≤ T.rts.length ∧ T.rts.length ≤ 16) := fun h => by
      rw [HF0.out] at h
      simp only [Bool.and_eq_true, decide_eq_true_eq] at h
      exact h.2.2.2.2.2
    clear hb HF0
    obtain ⟨I, hI⟩ : ∃ I : Nat → Bool, I = fun k => (F0 && (List.range k).all fun i => rpt T.tracks (T.pts.getD i 0)) := ⟨_, rfl⟩
    have HI0 : Hid (I 0 = F0) := by show _ = _; rw [hI]; simp
    have HI1 : Hid (∀ k, I (k + 1) = (I k && rpt T.tracks (T.pts.getD k 0))) := by
      show ∀ k, _
      intro k; rw [hI]; simp only [List.range_succ, List.all_append, List.all_cons, List.all_nil, Bool.and_true, Bool.and_assoc]
    have HIF : Hid (I T.pts.length = (F0 && ptsB T)) := by show _ = _; rw [hI, ← rpts_eq]
    have HIM : Hid (∀ k, k ≤ T.pts.length → I k = false → false = I T.pts.length) := by
      show ∀ k, _
      intro k hk h
      cases e : I T.pts.length with
      | false => rfl
      | true =>
        exfalso
        rw [hI, Bool.and_eq_true, List.all_eq_true] at e
        have : I k = true := by
          rw [hI, Bool.and_eq_true, List.all_eq_true]
          exact ⟨e.1, fun i hi => e.2 i (List.mem_range.2 (by have := List.mem_range.1 hi; omega))⟩
        rw [this] at h; cases h
    clear hI
    rw [← HI0.out]
    have K2 := Lib.hid (tb_kept K1.out B2.out)
    have HBAD : Hid ((F0 && ptsB T) = false → 260 = E) := fun h => by
      rw [HE.out, ← HFS.out]
      cases hf : F0
      · rfl
      · rw [hf, Bool.true_and] at h; rw [h]; rfl
    go_wp2_with fail
    go_loopw [3, 4] (fun o p wr => ∃ k : Nat, k ≤ T.pts.length ∧ o = .bool (I k) ∧ p = .int .i64 k ∧ Below w1.heap.size w1 wr) (fun _ p _ => T.pts.length - (intOf p).toNat)
    case atStart => exact ⟨0, Nat.zero_le _, rfl, rfl, B2.out⟩
    case round =>
      clear B2 K2
      obtain ⟨k, hk, rfl, rfl, hb⟩ := hrel
      have B3 := Lib.hid hb
      have BW3 : Hid (Below w.heap.size w wr) := B1.out.trans (hb.mono B1.out.size)
      clear hb
      have K3 := Lib.hid (tb_kept K1.out B3.out)
      have t0 := cell_row (j := 0) K3.out rfl; have t1 := cell_row (j := 1) K3.out rfl; have t3 := cell_row (j := 3) K3.out rfl
      have lt := heap_lt K3.out
      by_cases hlt : k < T.pts.length
      case pos =>
        have HM := Lib.hid (HIM.out k hk)
        have HX1 := Lib.hid (HI1.out k)
        generalize I k = g at *
        cases g
        case false =>
          have HX : Hid (260 = E) := HBAD.out (HIF.out.symm.trans (HM.out rfl).symm)
          go_wp2_with fail
          clear t0 t1 t3 lt
          go_loopw [3, 5] (fun o p wr => o = .bool false ∧ p = .int .i64 0 ∧ Below w1.heap.size w1 wr) (fun _ _ _ => 0)
          case atStart => exact ⟨rfl, rfl, B3.out⟩
          case round =>
            obtain ⟨rfl, rfl, hb⟩ := hrel
            have BZ : Hid (Below w.heap.size w wr) := B1.out.trans (hb.mono B1.out.size)
            have t3 := cell_row (j := 3) (tb_kept K1.out hb) rfl
            have lt := heap_lt (tb_kept K1.out hb)
            clear hb
            by_cases hN0 : 0 < T.rts.length
            case pos =>
              have tz : decide ((0 : Int) < (T.rts.length : Int)) = true := decide_eq_true (by omega)
              go_wp2_with fail
              go_ret
              exact ⟨congrArg (fun x => Ending.returned (.int .i64 x)) HX.out, BZ.out⟩
            case neg =>
              have tz : decide ((0 : Int) < (T.rts.length : Int)) = false := decide_eq_false (by omega)
              go_wp2_with fail
              go_ret
              exact ⟨congrArg (fun x => Ending.returned (.int .i64 x)) HX.out, BZ.out⟩
        case true =>
          obtain ⟨b, off, rfl, hb, x0⟩ := (HP.out.below BW3.out).cell hlt
          have HX2 : Hid (I (k + 1) = (decide (0 ≤ T.pts.getD k 0) && decide (T.pts.getD k 0 < T.tracks))) := by show _ = _; rw [HX1.out]; rfl
          generalize T.pts.getD k 0 = y at *
          go_upto_region 5 with fail
          cases s1 : decide (0 ≤ y)
          case false =>
            have HX : Hid (false = I (k + 1)) := by show _ = _; rw [HX2.out, s1]; rfl
            go_quiet (fail)
            have B4 : Hid (Below w1.heap.size w1 (wr.drewN nq)) := ⟨B3.out.os, B3.out.tape, B3.out.output, B3.out.size, B3.out.block⟩
            generalize wr.drewN nq = w4 at *
            clear t0 t1 t3 lt x0 hb
            go_wp2_with fail
            go_roundw
            case rel => exact ⟨k + 1, by omega, congrArg Value.bool HX.out, by go_num, B4.out⟩
            case measure => simp [intOf]; omega
          case true =>
            cases s2 : decide (y < T.tracks)
            case false =>
              have HX : Hid (false = I (k + 1)) := by show _ = _; rw [HX2.out, s1, s2]; rfl
              go_quiet (fail)
              have B4 : Hid (Below w1.heap.size w1 (wr.drewN nq)) := ⟨B3.out.os, B3.out.tape, B3.out.output, B3.out.size, B3.out.block⟩
              generalize wr.drewN nq = w4 at *
              clear t0 t1 t3 lt x0 hb
              go_wp2_with fail
              go_roundw
              case rel => exact ⟨k + 1, by omega, congrArg Value.bool HX.out, by go_num, B4.out⟩
              case measure => simp [intOf]; omega
            case true =>
              have HX : Hid (true = I (k + 1)) := by show _ = _; rw [HX2.out, s1, s2]; rfl
              go_quiet (fail)
              have B4 : Hid (Below w1.heap.size w1 (wr.drewN nq)) := ⟨B3.out.os, B3.out.tape, B3.out.output, B3.out.size, B3.out.block⟩
              generalize wr.drewN nq = w4 at *
              clear t0 t1 t3 lt x0 hb
              go_wp2_with fail
              go_roundw
              case rel => exact ⟨k + 1, by omega, congrArg Value.bool HX.out, by go_num, B4.out⟩
              case measure => simp [intOf]; omega
      case neg =>
      obtain rfl : k = T.pts.length := by omega
      cases hG : I T.pts.length
      case false =>
        have HX : Hid (260 = E) := HBAD.out (HIF.out.symm.trans hG)
        clear hG
        go_wp2_with fail
        clear t0 t1 t3 lt
        go_loopw [3, 5] (fun o p wr => o = .bool false ∧ p = .int .i64 0 ∧ Below w1.heap.size w1 wr) (fun _ _ _ => 0)
        case atStart => exact ⟨rfl, rfl, B3.out⟩
        case round =>
          obtain ⟨rfl, rfl, hb⟩ := hrel
          have BZ : Hid (Below w.heap.size w wr) := B1.out.trans (hb.mono B1.out.size)
          have t3 := cell_row (j := 3) (tb_kept K1.out hb) rfl
          have lt := heap_lt (tb_kept K1.out hb)
          clear hb
          by_cases hN0 : 0 < T.rts.length
          case pos =>
            have tz : decide ((0 : Int) < (T.rts.length : Int)) = true := decide_eq_true (by omega)
            go_wp2_with fail
            go_ret
            exact ⟨congrArg (fun x => Ending.returned (.int .i64 x)) HX.out, BZ.out⟩
          case neg =>
            have tz : decide ((0 : Int) < (T.rts.length : Int)) = false := decide_eq_false (by omega)
            go_wp2_with fail
            go_ret
            exact ⟨congrArg (fun x => Ending.returned (.int .i64 x)) HX.out, BZ.out⟩
      case true =>
      have hfp : F0 = true ∧ ptsB T = true := by rw [HIF.out, Bool.and_eq_true] at hG; exact hG
      have hnn := HN16.out hfp.1
      have HE2 : Hid (E = if routesB T = false then 260 else if declsB T = false then 261 else 0) := by show _ = _; rw [HE.out, ← HFS.out, hfp.1, hfp.2]; rfl
      clear hG hfp HBAD HIF HIM HI0 HI1 HN16
      obtain ⟨R, hR⟩ : ∃ R : Nat → Bool, R = fun k => ((List.range k).all fun i => routeB T i) := ⟨_, rfl⟩
      have HR0 : Hid (R 0 = true) := by show _ = _; rw [hR]; rfl
      have HR1 : Hid (∀ k, R (k + 1) = (R k && routeB T k)) := by
        show ∀ k, _
        intro k; rw [hR]; simp only [List.range_succ, List.all_append, List.all_cons, List.all_nil, Bool.and_true]
      have HRF : Hid (R T.rts.length = routesB T) := by show _ = _; rw [hR]; rfl
      have HRM : Hid (∀ k, k ≤ T.rts.length → R k = false → 260 = E) := by
        show ∀ k, _
        intro k hk h
        rw [HE2.out]
        cases e : routesB T with
        | false => rfl
        | true =>
          exfalso
          have : R k = true := by
            rw [hR, List.all_eq_true]
            intro i hi
            exact routesB_iff.1 e i (by have := List.mem_range.1 hi; omega)
          rw [this] at h; cases h
      clear hR
      go_wp2_with fail
      clear t0 t1 t3 lt
      go_loopw [3, 5] (fun o p wr => ∃ k : Nat, k ≤ T.rts.length ∧ o = .bool (R k) ∧ p = .int .i64 k ∧ Below w1.heap.size w1 wr) (fun _ p _ => T.rts.length - (intOf p).toNat)
      case atStart => exact ⟨0, Nat.zero_le _, congrArg Value.bool HR0.out.symm, rfl, B3.out⟩
      case round =>
        clear B3 BW3 K3
        obtain ⟨k, hk, rfl, rfl, hb⟩ := hrel
        have B3 := Lib.hid hb
        have BW3 : Hid (Below w.heap.size w wr) := B1.out.trans (hb.mono B1.out.size)
        clear hb
        have K3 := Lib.hid (tb_kept K1.out B3.out)
        have t0 := cell_row (j := 0) K3.out rfl; have t1 := cell_row (j := 1) K3.out rfl; have t2 := cell_row (j := 2) K3.out rfl; have t3 := cell_row (j := 3) K3.out rfl
        have lt := heap_lt K3.out
        by_cases hlt : k < T.rts.length
        case pos =>
          have HM := Lib.hid (HRM.out k hk)
          have HX1 := Lib.hid (HR1.out k)
          generalize R k = g at *
          cases g
          case false =>
            have HX := Lib.hid (HM.out rfl)
            go_wp2_with fail
            go_ret
            exact ⟨congrArg (fun x => Ending.returned (.int .i64 x)) HX.out, BW3.out⟩
          case true =>
            have HRC := Lib.hid (rroute_any _ T k wr (HT.out.below BW3.out) hlt HB.out)
            have HX2 : Hid (routeB T k = R (k + 1)) := by show _ = _; rw [HX1.out, Bool.true_and]
            generalize routeB T k = g2 at *
            go_wp2_with fail
            refine HRC.out.mono ?_
            rintro e w4 ⟨rfl, hb⟩
            have B4 := Lib.hid (B3.out.trans (hb.mono B3.out.size))
            clear hb t0 t1 t2 t3 lt
            go_wp2_with fail
            go_roundw
            case rel => exact ⟨k + 1, by omega, congrArg Value.bool HX2.out, by go_num, B4.out⟩
            case measure => simp [intOf]; omega
        case neg =>
        obtain rfl : k = T.rts.length := by omega
        cases hG : R T.rts.length
        case false =>
          have HX := Lib.hid (HRM.out _ (Nat.le_refl _) hG)
          clear hG
          go_wp2_with fail
          go_ret
          exact ⟨congrArg (fun x => Ending.returned (.int .i64 x)) HX.out, BW3.out⟩
        case true =>
        have HE3 : Hid (E = if declsB T = false then 261 else 0) := by show _ = _; rw [HE2.out, ← HRF.out, hG]; rfl
        have HCF := Lib.hid (rconf_any _ T wr (HT.out.below BW3.out) (by omega) (by omega))
        clear hG HRF HRM HR0 HR1 HE2
        go_wp2_with fail
        refine HCF.out.mono ?_
        rintro e w4 ⟨⟨v, ob, V, rfl, hsl, hin⟩, hb⟩
        have B4 := Lib.hid (B3.out.trans (hb.mono B3.out.size))
        have I4 := Lib.hid hin
        obtain ⟨oa, oc, rfl, ho1, ho2, ho3⟩ := hsl
        obtain ⟨rfl, hrow⟩ := ho3 (by omega)
        have R4 := Lib.hid hrow
        unfold maxLen at ho2
        clear hb hin hrow t0 t1 t2 t3 lt HCF K3 B3 BW3 ho3
        go_wp2_with fail
        go_loopw [7, 8] (fun p _i wr => ∃ n : Nat, n ≤ T.rts.length ∧ p = .int .i64 n ∧ (∀ j, j < n → declB T j = true) ∧ Below w4.heap.size w4 wr) (fun p _ _ => T.rts.length - (intOf p).toNat)
        case atStart => exact ⟨0, Nat.zero_le _, rfl, fun j hj => absurd hj (by omega), Below.refl _ _⟩
        case round =>
          obtain ⟨n, hn, rfl, hno, hb⟩ := hrel
          have NO := Lib.hid hno; have B5 := Lib.hid hb
          clear hno hb
          by_cases hln : n < T.rts.length
          case pos =>
            have HLN := Lib.hid hln
            obtain ⟨⟨la, lc, hvn, hl1, hl2, _⟩, _⟩ := id (I4.out n hln)
            have HIN : Hid (IntsAt w4 (.slice la (confL T n T.rts.length).length lc) (confL T n T.rts.length)) := hvn ▸ I4.out n hln
            have HVN := Lib.hid hvn
            have hcl := confL_len T n T.rts.length
            unfold maxLen at hl2
            clear hvn
            go_wp2_with fail
            go_loopw [8] (fun p wr => ∃ i : Nat, i ≤ (confL T n T.rts.length).length ∧ p = .int .i64 i ∧ (∀ j, j < i → hasI (T.rts.getD n rt0).con ((confL T n T.rts.length).getD j 0) = true) ∧ Below w4.heap.size w4 wr) (fun p _ => (confL T n T.rts.length).length - (intOf p).toNat)
            case atStart => exact ⟨0, Nat.zero_le _, rfl, fun j hj => absurd hj (by omega), B5.out⟩
            case round =>
              clear B5
              obtain ⟨i, hi, rfl, hno, hb⟩ := hrel
              have NO2 := Lib.hid hno; have B5 := Lib.hid hb
              have BW5 : Hid (Below w.heap.size w wr) := B1.out.trans ((B4.out.trans (hb.mono B4.out.size)).mono B1.out.size)
              clear hno hb
              have x0 : wr.cell? ⟨ob, n, none⟩ = some (.slice la (confL T n T.rts.length).length lc) := by
                rw [← HVN.out]; exact (B5.out.cell R4.out.lt).trans (R4.out.cell HLN.out)
              have lo : ob < wr.heap.size := Nat.lt_of_lt_of_le R4.out.lt B5.out.size
              by_cases hli : i < (confL T n T.rts.length).length
              case pos =>
                obtain ⟨lb, lof, rfl, hlb, y0⟩ := (HIN.out.below B5.out).cell hli
                obtain ⟨rb, ro, C', rfl, hrb, hrc, hrr⟩ := HR.out.cells (i := n) HLN.out
                have z4 := (BW5.out.cell hrb).trans (hrc 4 (by omega))
                obtain ⟨D, hD⟩ : ∃ D, D = T.rts.getD n rt0 := ⟨_, rfl⟩
                rw [← hD] at hrr
                obtain ⟨⟨da, dc, hdn, _⟩, _⟩ := hrr.con
                rw [hdn] at z4
                have HDC : Hid (IntsAt w (.slice da D.con.length dc) D.con) := hdn ▸ hrr.con
                have HC := Lib.hid (rhas_q _ D.con ((confL T n T.rts.length).getD i 0) wr (HDC.out.below BW5.out))
                have K5 := Lib.hid (tb_kept (tb_kept K1.out B4.out) B5.out)
                have t3 := cell_row (j := 3) K5.out rfl
                have lt := heap_lt K5.out
                have lr : rb < wr.heap.size := Nat.lt_of_lt_of_le hrb BW5.out.size
                have HNN : Hid (hasI D.con ((confL T n T.rts.length).getD i 0) = true → ∀ j, j < i + 1 → hasI (T.rts.getD n rt0).con ((confL T n T.rts.length).getD j 0) = true) := fun h j hj => by
                  by_cases e : j < i
                  · exact NO2.out j e
                  · obtain rfl : j = i := by omega
                    rw [← hD]; exact h
                have HNX : Hid (hasI D.con ((confL T n T.rts.length).getD i 0) = false → 261 = E) := fun h => by
                  rw [HE3.out, declsB_no HLN.out (by
                    rw [missB_all, List.all_eq_false]
                    exact ⟨i, List.mem_range.2 hli, by rw [← hD, h]; decide⟩)]; rfl
                clear hD hrr hrc hdn hrb
                generalize hasI D.con ((confL T n T.rts.length).getD i 0) = h at *
                generalize (confL T n T.rts.length).getD i 0 = y at *
                go_upto_region 19 with fail
                cases h
                case false =>
                  have HX := Lib.hid (HNX.out rfl)
                  go_quiet ((go_at_call 41; (with_reducible exact HC.out _)))
                  have B6 : Hid (Below w.heap.size w (wr.drewN nq)) := ⟨BW5.out.os, BW5.out.tape, BW5.out.output, BW5.out.size, BW5.out.block⟩
                  generalize wr.drewN nq = w6 at *
                  clear x0 lo y0 z4 t3 lt lr hlb
                  go_wp2_with fail
                  go_ret
                  exact ⟨congrArg (fun x => Ending.returned (.int .i64 x)) HX.out, B6.out⟩
                case true =>
                  have HX := Lib.hid (HNN.out rfl)
                  go_quiet ((go_at_call 41; (with_reducible exact HC.out _)))
                  have B6 : Hid (Below w4.heap.size w4 (wr.drewN nq)) := ⟨B5.out.os, B5.out.tape, B5.out.output, B5.out.size, B5.out.block⟩
                  generalize wr.drewN nq = w6 at *
                  clear x0 lo y0 z4 t3 lt lr hlb
                  go_wp2_with fail
                  go_roundw
                  case rel => exact ⟨i + 1, by omega, by go_num, HX.out, B6.out⟩
                  case measure => simp [intOf]; omega
              case neg =>
              obtain rfl : i = (confL T n T.rts.length).length := by omega
              have HDN : Hid (∀ j, j < n + 1 → declB T j = true) := fun j hj => by
                by_cases e : j < n
                · exact NO.out j e
                · obtain rfl : j = n := by omega
                  rw [missB_all, List.all_eq_true]
                  exact fun i hi => NO2.out i (List.mem_range.1 hi)
              go_wp2_with fail
              clear x0 lo
              go_roundw
              case rel => exact ⟨n + 1, by have := HLN.out; omega, by go_num, HDN.out, B5.out⟩
              case measure => have := HLN.out; simp [intOf]; omega
          case neg =>
          obtain rfl : n = T.rts.length := by omega
          have HX : Hid (0 = E) := by show _ = _; rw [HE3.out, declsB_iff.2 NO.out]; rfl
          go_wp2_with fail
          go_ret
          exact ⟨congrArg (fun x => Ending.returned (.int .i64 x)) HX.out, B1.out.trans ((B4.out.trans (B5.out.mono B4.out.size)).mono B1.out.size)⟩
end Go.Proofs.YtpodedhnlicckaaGreatDoor
