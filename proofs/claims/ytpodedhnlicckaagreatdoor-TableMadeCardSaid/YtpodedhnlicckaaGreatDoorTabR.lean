/- A route may be, but for what it must conflict with (table.route). -/
import Derived.Test.YtpodedhnlicckaaGreatDoorTabP
import Derived.Test.YtpodedhnlicckaaGreatDoorTabMv
namespace Go.Proofs.YtpodedhnlicckaaGreatDoor
open Go.RowKit
set_option linter.unusedVariables false
set_option linter.unusedSimpArgs false
def inPtsB (T : Tab) (r : Rt) : Bool := (List.range T.pts.length).all fun p => !hasI r.tr (T.pts.getD p 0) || hasI (ownP r) (p : Int)
theorem inPtsB_iff {T : Tab} {r : Rt} : inPtsB T r = true ↔ ∀ p, p < T.pts.length → (!hasI r.tr (T.pts.getD p 0) || hasI (ownP r) (p : Int)) = true := by
  unfold inPtsB
  simp only [List.all_eq_true, List.mem_range]
theorem inPtsB_no {T : Tab} {r : Rt} {p : Nat} (hp : p < T.pts.length) (h1 : hasI r.tr (T.pts.getD p 0) = true) (h2 : hasI (ownP r) (p : Int) = false) : inPtsB T r = false := by
  cases e : inPtsB T r with
  | false => rfl
  | true => have := inPtsB_iff.1 e p hp; rw [h1, h2] at this; cases this
def mutB (T : Tab) (r : Rt) (n : Nat) : Bool := r.con.any fun k => !hasI (T.rts.getD k.toNat rt0).con (n : Int)
def routeB (T : Tab) (n : Nat) : Bool :=
  !decide ((T.rts.getD n rt0).sig < 0) && (!decide (T.sigs ≤ (T.rts.getD n rt0).sig) && (!((T.rts.getD n rt0).tr.length == 0) && (withinI (T.rts.getD n rt0).tr T.tracks && (withinI (ownP (T.rts.getD n rt0)) T.pts.length &&
  (!decide ((T.rts.getD n rt0).app < -1) && (!decide (T.tracks ≤ (T.rts.getD n rt0).app) && (!hasI (T.rts.getD n rt0).tr (T.rts.getD n rt0).app && (inPtsB T (T.rts.getD n rt0) &&
  (withinI (T.rts.getD n rt0).con T.rts.length && (sortedI (T.rts.getD n rt0).con && (!hasI (T.rts.getD n rt0).con n && !mutB T (T.rts.getD n rt0) n)))))))))))
theorem contains_b (v : Value) (l : List Int) (x : Int) (w : World) (h : IntsAt w v l) :
    Calls Tryz.prog 38 #[v, .int .i64 x] w fun e w' => e = .returned (.bool (hasI l x)) ∧ Below w.heap.size w w' := (contains_int v l x w h).mono fun e w' ⟨he, hw⟩ => ⟨he, by rw [hw]; exact Below.refl _ _⟩
set_option maxRecDepth 100000 in
/-- route$1: is n not among what k conflicts with? -/
theorem route1_any (k : Int) (T : Tab) (vp vr : Value) (n tb nb : Nat) (w : World) (hk0 : 0 ≤ k) (hk1 : k.toNat < T.rts.length) (hr : RtsAt w vr T.rts)
    (ht : w.heap[tb]? = some (.cells #[.int .i64 T.tracks, vp, .int .i64 T.sigs, vr] 25 (0, 0))) (hn : w.heap[nb]? = some (.cells #[.int .i64 (n : Int)] 3 (0, 0))) :
    Calls Tryz.prog 79 #[.int .i64 k, .pointer (some ⟨tb, 0, none⟩), .pointer (some ⟨nb, 0, none⟩)] w fun e w' => e = .returned (.bool (!hasI (T.rts.getD k.toNat rt0).con (n : Int))) ∧ Below w.heap.size w w' := by
  obtain ⟨k, rfl⟩ := Int.eq_ofNat_of_zero_le hk0
  rw [Int.toNat_natCast] at hk1 ⊢
  obtain ⟨a, c, C, rfl, hlc, hcm, _⟩ := hr.at_
  obtain ⟨b, off, C, rfl, hb, hc, hR⟩ := hr.cells hk1
  have hsz := hr.size
  unfold maxLen at hsz
  have x4 : w.cell? ⟨b, off + k * 6 + 4, none⟩ = some (C 4) := hc 4 (by omega)
  have c3 := cell_row (j := 3) ht rfl
  have n0 := cell_row (j := 0) hn rfl
  have l1 := heap_lt ht; have l2 := heap_lt hn
  have HR6 := Lib.hid hR
  generalize hlen : T.rts.length = m at *
  clear hc ht hn hr hk0 hlen hR
  generalize hres : hasI (T.rts.getD k rt0).con (n : Int) = r at *
  have HRS := Lib.hid hres
  clear hres
  go_enter Tryz.func79, Tryz.ntmps79
  go_upto_region 1 with fail
  obtain ⟨U, fU, hUn, hU1, hU2⟩ := class_of (fun V => Below w.heap.size w V) (W := w.drew) ⟨rfl, rfl, rfl, Nat.le_refl _, fun _ _ => rfl⟩
  have HU1 := Lib.hid hU1; have HU2 := Lib.hid hU2
  clear hU1 hU2
  have hfm : (Tryz.prog).follows .mixedOrders = true := by kernel_rfl
  obtain ⟨q, hd1⟩ : ∃ q : Nat, 1 ≤ q := ⟨1, Nat.le_refl _⟩
  have y3 := fun uu => ((HU1.out uu).cell l1).trans c3
  have yn := fun uu => ((HU1.out uu).cell l2).trans n0
  have y4 := fun uu => ((HU1.out uu).cell hb).trans x4
  have h0_HR : ∀ uu, Calls Tryz.prog 38 #[C 4, .int .i64 (n : Int)] (fU uu) fun e w' => e = .returned (.bool r) ∧ Below (fU uu).heap.size (fU uu) w' := fun uu => HRS.out ▸ contains_b _ _ (n : Int) (fU uu) (HR6.out.con.below (HU1.out uu))
  have HR : Hid (∀ uu, CallsIn Fence.wide (q - 1) Tryz.prog 38 #[C 4, .int .i64 (n : Int)] (fU uu) fun e w' => e = .returned (.bool r) ∧ ∃ uu', w' = fU uu') := fun uu => (callsIn_wide.2 (h0_HR uu)).mono (fun e w' ⟨he, hb⟩ => ⟨he, HU2.out _ ((HU1.out uu).trans (hb.mono (HU1.out uu).size))⟩)
  have hf_HR : Fence.wide.fn 38 := trivial
  clear h0_HR
  clear c3 n0 x4 
  refine (wpIn_wide (n := q)).1 ?_
  refine wpIn_region_cls fU (by kernel_rfl) hfm (by kernel_rfl) (HU2.out _ ⟨rfl, rfl, rfl, Nat.le_refl _, fun _ _ => rfl⟩) ?_
  repeat (gi_big_quiet_step (first | (gi_at_call 38; (with_reducible exact HR.out _))))
  refine wpQuietIn_nil ?_
  rintro w5 ⟨uu, rfl⟩
  have B5 := Lib.hid ((Below.refl w.heap.size w).trans ((HU1.out uu).mono (Below.refl w.heap.size w).size))
  generalize fU uu = w5 at *
  clear HU1 HU2
  go_wp2_with fail
  go_ret
  exact ⟨rfl, B5.out⟩
theorem alloc3 (w : World) (c1 c2 c3 : Array Value) (t1 t2 t3 : TypeId) : ∃ w3, w3 = ((w.alloc (.cells c1 t1)).alloc (.cells c2 t2)).alloc (.cells c3 t3) ∧ w3.heap[w.heap.size]? = some (.cells c1 t1 (0, 0)) ∧ w3.heap[w.heap.size + 1]? = some (.cells c2 t2 (0, 0)) ∧ w3.heap[w.heap.size + 2]? = some (.cells c3 t3 (0, 0)) ∧ w3.heap.size = w.heap.size + 3 ∧ Below w.heap.size w w3 := by
  have z1 : (w.alloc (.cells c1 t1)).heap.size = w.heap.size + 1 := Array.size_push _
  have z2 : ((w.alloc (.cells c1 t1)).alloc (.cells c2 t2)).heap.size = w.heap.size + 2 := by show (Array.push _ _).size = _; rw [Array.size_push, z1]
  refine ⟨_, rfl, ?_, ?_, ?_, ?_, ?_⟩
  · exact tb_kept (tb_kept (heap_alloc_new _ _) (tb_alloc_below _ _)) (tb_alloc_below _ _)
  · exact tb_kept (by rw [← z1]; exact heap_alloc_new _ _) (tb_alloc_below _ _)
  · rw [← z2]; exact heap_alloc_new _ _
  · show (Array.push _ _).size = _; rw [Array.size_push, z2]
  · exact ((tb_alloc_below w _).alloc (by omega) _).alloc (by omega) _
set_option maxRecDepth 100000 in
set_option maxHeartbeats 4000000 in
theorem route_any (v : Value) (T : Tab) (n : Nat) (w : World) (hT : TabAt w v T) (hn : n < T.rts.length) (hbig : ∀ r ∈ T.rts, r.pts.length ≤ 1000000) :
    Calls Tryz.prog 36 #[v, .int .i64 (n : Int)] w fun e w' => e = .returned (.bool (routeB T n)) ∧ Below w.heap.size w w' := by
  obtain ⟨⟨vp, vr, rfl, hP, hr⟩, _, _⟩ := hT
  obtain ⟨a, c, C0, rfl, hlc, hcm, _⟩ := hr.at_
  obtain ⟨b, off, C, rfl, hb, hc, hR⟩ := hr.cells hn
  have hsz := hr.size
  unfold maxLen at hsz
  have x0 : w.cell? ⟨b, off + n * 6 + 0, none⟩ = some (C 0) := hc 0 (by omega)
  have x1 : w.cell? ⟨b, off + n * 6 + 1, none⟩ = some (C 1) := hc 1 (by omega)
  have x2 : w.cell? ⟨b, off + n * 6 + 2, none⟩ = some (C 2) := hc 2 (by omega)
  have x3 : w.cell? ⟨b, off + n * 6 + 3, none⟩ = some (C 3) := hc 3 (by omega)
  have x4 : w.cell? ⟨b, off + n * 6 + 4, none⟩ = some (C 4) := hc 4 (by omega)
  have x5 : w.cell? ⟨b, off + n * 6 + 5, none⟩ = some (C 5) := hc 5 (by omega)
  rw [Nat.add_zero] at x0
  have hV := hR.rval
  obtain ⟨r, hrr⟩ : ∃ r, r = T.rts.getD n rt0 := ⟨_, rfl⟩
  have HRB : Hid (r.pts.length ≤ 1000000) := hbig r (by rw [hrr, List.getD_eq_getElem?_getD, List.getElem?_eq_getElem hn]; exact List.getElem_mem hn)
  obtain ⟨F, hF⟩ : ∃ F, F = routeB T n := ⟨_, rfl⟩
  rw [← hF]
  unfold routeB at hF
  rw [← hrr] at hR hV hF
  obtain ⟨⟨ta, tc, ht, htl, htm, _⟩, _⟩ := hR.tr
  obtain ⟨⟨pa, pc, hp, _⟩, _⟩ := hR.pts
  obtain ⟨⟨ca, cc, hcn, _⟩, _⟩ := hR.con
  obtain ⟨⟨va, vc, hvp, hvl, hvm, _⟩, _⟩ := id hP
  have HTR := Lib.hid hR.tr; have HPT := Lib.hid hR.pts; have HCO := Lib.hid hR.con
  rw [hR.sig] at x0 hV; rw [ht] at x1 HTR hV; rw [hp] at x2 HPT hV; rw [hR.app] at x3 hV; rw [hcn] at x4 HCO hV; rw [hR.hold] at x5 hV
  subst hvp
  obtain ⟨w3, hw3, k0, k1, k2, hz3, hb3⟩ := alloc3 w #[.int .i64 T.tracks, .slice va T.pts.length vc, .int .i64 T.sigs, .slice (some ⟨b, off, none⟩) T.rts.length c] #[.int .i64 (n : Int)] #[.int .i64 r.sig, .slice ta r.tr.length tc, .slice pa r.pts.length pc, .int .i64 r.app, .slice ca r.con.length cc, .int .u16 (r.hold : Int)] 25 3 30
  have HV := Lib.hid (hV.below hb3); have HRS := Lib.hid (hr.below hb3); have HP := Lib.hid (hP.below hb3); have HW3 := Lib.hid hw3; have K0 := Lib.hid k0; have K1 := Lib.hid k1; have K2 := Lib.hid k2; have Z3 := Lib.hid hz3; have B3 := Lib.hid hb3; have HF := Lib.hid hF
  have TR := Lib.hid (HTR.out.below hb3); have CO := Lib.hid (HCO.out.below hb3)
  have HRR := Lib.hid hrr
  have hpz := hP.size
  unfold maxLen at hpz hvm htm
  generalize hlen : T.rts.length = m at *
  have HLEN := Lib.hid hlen
  clear hlen hR hc hP hr hrr hV hbig ht hp hcn hF hw3 k0 k1 k2 hz3 hb3 HTR HPT HCO
  go_enter Tryz.func36, Tryz.ntmps36
  go_upto_region 2 with fail
  rw [← HW3.out]
  clear x0 x1 x2 x3 x4 x5
  have b3 := Lib.hid (Below.refl w3.heap.size w3)
  have c0 := cell_row (j := 0) (tb_kept K0.out (b3.out)) rfl
  have c1 := cell_row (j := 1) (tb_kept K0.out (b3.out)) rfl
  have c2 := cell_row (j := 2) (tb_kept K0.out (b3.out)) rfl
  have c3 := cell_row (j := 3) (tb_kept K0.out (b3.out)) rfl
  have n0 := cell_row (j := 0) (tb_kept K1.out (b3.out)) rfl
  have r0 := cell_row (j := 0) (tb_kept K2.out (b3.out)) rfl
  have r1 := cell_row (j := 1) (tb_kept K2.out (b3.out)) rfl
  have r2 := cell_row (j := 2) (tb_kept K2.out (b3.out)) rfl
  have r3 := cell_row (j := 3) (tb_kept K2.out (b3.out)) rfl
  have r4 := cell_row (j := 4) (tb_kept K2.out (b3.out)) rfl
  have r5 := cell_row (j := 5) (tb_kept K2.out (b3.out)) rfl
  have l0 := heap_lt (tb_kept K0.out (b3.out)); have l1 := heap_lt (tb_kept K1.out (b3.out)); have l2 := heap_lt (tb_kept K2.out (b3.out))
  go_wp2_with fail
  refine (points_any _ r w3 HV.out HRB.out).mono ?_
  rintro e w4 ⟨⟨u, rfl, hu⟩, hb⟩
  have OW := Lib.hid hu
  have b4 := Lib.hid (b3.out.trans (hb.mono b3.out.size))
  clear hu hb
  clear c0 c1 c2 c3 n0 r0 r1 r2 r3 r4 r5 l0 l1 l2
  have c0 := cell_row (j := 0) (tb_kept K0.out (b4.out)) rfl
  have c1 := cell_row (j := 1) (tb_kept K0.out (b4.out)) rfl
  have c2 := cell_row (j := 2) (tb_kept K0.out (b4.out)) rfl
  have c3 := cell_row (j := 3) (tb_kept K0.out (b4.out)) rfl
  have n0 := cell_row (j := 0) (tb_kept K1.out (b4.out)) rfl
  have r0 := cell_row (j := 0) (tb_kept K2.out (b4.out)) rfl
  have r1 := cell_row (j := 1) (tb_kept K2.out (b4.out)) rfl
  have r2 := cell_row (j := 2) (tb_kept K2.out (b4.out)) rfl
  have r3 := cell_row (j := 3) (tb_kept K2.out (b4.out)) rfl
  have r4 := cell_row (j := 4) (tb_kept K2.out (b4.out)) rfl
  have r5 := cell_row (j := 5) (tb_kept K2.out (b4.out)) rfl
  have l0 := heap_lt (tb_kept K0.out (b4.out)); have l1 := heap_lt (tb_kept K1.out (b4.out)); have l2 := heap_lt (tb_kept K2.out (b4.out))
  cases t1 : decide (r.sig < 0)
  case true =>
    have HX : Hid (F = false) := by show _ = _; rw [HF.out, t1]; rfl
    go_wp2_with fail
    go_ret
    exact ⟨congrArg (fun x => Ending.returned (.bool x)) HX.out.symm, B3.out.trans ((b4.out).mono B3.out.size)⟩
  case false =>
  rw [t1, Bool.not_false, Bool.true_and] at HF
  cases t2 : decide (T.sigs ≤ r.sig)
  case true =>
    have HX : Hid (F = false) := by show _ = _; rw [HF.out, t2]; rfl
    go_wp2_with fail
    go_ret
    exact ⟨congrArg (fun x => Ending.returned (.bool x)) HX.out.symm, B3.out.trans ((b4.out).mono B3.out.size)⟩
  case false =>
  rw [t2, Bool.not_false, Bool.true_and] at HF
  cases t3 : (r.tr.length == 0)
  case true =>
    have t3' : ((r.tr.length : Int) == 0) = true := by simpa using t3
    have HX : Hid (F = false) := by show _ = _; rw [HF.out, t3]; rfl
    go_wp2_with fail
    go_ret
    exact ⟨congrArg (fun x => Ending.returned (.bool x)) HX.out.symm, B3.out.trans ((b4.out).mono B3.out.size)⟩
  case false =>
  have t3' : ((r.tr.length : Int) == 0) = false := by simpa using t3
  rw [t3, Bool.not_false, Bool.true_and] at HF
  have HC1 := Lib.hid (within_any _ r.tr T.tracks w4 (TR.out.below b4.out))
  have HC2 := Lib.hid (within_any _ (ownP r) (T.pts.length : Int) w4 OW.out)
  cases t4 : withinI r.tr T.tracks
  case false =>
    rw [t4] at HC1
    have HX : Hid (F = false) := by show _ = _; rw [HF.out, t4]; rfl
    clear t4
    go_wp2_with fail
    (with_reducible refine HC1.out.mono ?_)
    rintro e w4 ⟨rfl, rfl⟩
    go_wp2_with fail
    go_ret
    exact ⟨congrArg (fun x => Ending.returned (.bool x)) HX.out.symm, B3.out.trans ((b4.out).mono B3.out.size)⟩
  case true =>
  rw [t4] at HC1
  rw [t4, Bool.true_and] at HF
  clear t4
  cases t5 : withinI (ownP r) (T.pts.length : Int)
  case false =>
    rw [t5] at HC2
    have HX : Hid (F = false) := by show _ = _; rw [HF.out, t5]; rfl
    clear t5
    go_wp2_with fail
    (with_reducible refine HC1.out.mono ?_)
    rintro e w4 ⟨rfl, rfl⟩
    go_wp2_with fail
    (with_reducible refine HC2.out.mono ?_)
    rintro e w4 ⟨rfl, rfl⟩
    go_wp2_with fail
    go_ret
    exact ⟨congrArg (fun x => Ending.returned (.bool x)) HX.out.symm, B3.out.trans ((b4.out).mono B3.out.size)⟩
  case true =>
  rw [t5] at HC2
  rw [t5, Bool.true_and] at HF
  clear t5
  go_wp2_with fail
  (with_reducible refine HC1.out.mono ?_)
  rintro e w4 ⟨rfl, rfl⟩
  go_wp2_with fail
  (with_reducible refine HC2.out.mono ?_)
  rintro e w4 ⟨rfl, rfl⟩
  clear HC1 HC2
  have HC3 := Lib.hid (contains_int _ r.tr r.app w4 (TR.out.below b4.out))
  cases t6 : decide (r.app < -1)
  case true =>
    have HX : Hid (F = false) := by show _ = _; rw [HF.out, t6]; rfl
    go_wp2_with fail
    go_ret
    exact ⟨congrArg (fun x => Ending.returned (.bool x)) HX.out.symm, B3.out.trans ((b4.out).mono B3.out.size)⟩
  case false =>
  rw [t6, Bool.not_false, Bool.true_and] at HF
  cases t7 : decide (T.tracks ≤ r.app)
  case true =>
    have HX : Hid (F = false) := by show _ = _; rw [HF.out, t7]; rfl
    go_wp2_with fail
    go_ret
    exact ⟨congrArg (fun x => Ending.returned (.bool x)) HX.out.symm, B3.out.trans ((b4.out).mono B3.out.size)⟩
  case false =>
  rw [t7, Bool.not_false, Bool.true_and] at HF
  cases t8 : hasI r.tr r.app
  case true =>
    rw [t8] at HC3
    have HX : Hid (F = false) := by show _ = _; rw [HF.out, t8]; rfl
    clear t8
    go_wp2_with fail
    (with_reducible refine HC3.out.mono ?_)
    rintro e w4 ⟨rfl, rfl⟩
    go_wp2_with fail
    go_ret
    exact ⟨congrArg (fun x => Ending.returned (.bool x)) HX.out.symm, B3.out.trans ((b4.out).mono B3.out.size)⟩
  case false =>
  rw [t8] at HC3
  rw [t8, Bool.not_false, Bool.true_and] at HF
  clear t8
  go_wp2_with fail
  (with_reducible refine HC3.out.mono ?_)
  rintro e w4 ⟨rfl, rfl⟩
  clear HC3 t6 t7
  go_wp2_with fail
  clear c0 c1 c2 c3 n0 r0 r1 r2 r3 r4 r5 l0 l1 l2
  go_loopw [68] (fun i wr => ∃ k : Nat, k ≤ T.pts.length ∧ i = .int .i64 k ∧ (∀ p, p < k → (!hasI r.tr (T.pts.getD p 0) || hasI (ownP r) (p : Int)) = true) ∧ Below w4.heap.size w4 wr) (fun i _ => T.pts.length - (intOf i).toNat)
  case atStart => exact ⟨0, Nat.zero_le _, rfl, fun p hp => absurd hp (by omega), Below.refl _ _⟩
  case round =>
    obtain ⟨k, hk, rfl, hno, hb⟩ := hrel
    have NO := Lib.hid hno
    have b5 := Lib.hid (b4.out.trans (hb.mono b4.out.size))
    have b45 := Lib.hid hb
    clear hno hb
    obtain ⟨w5, rfl⟩ : ∃ w5 : World, w5 = wr := ⟨_, rfl⟩
    have c0 := cell_row (j := 0) (tb_kept K0.out (b5.out)) rfl
    have c1 := cell_row (j := 1) (tb_kept K0.out (b5.out)) rfl
    have c2 := cell_row (j := 2) (tb_kept K0.out (b5.out)) rfl
    have c3 := cell_row (j := 3) (tb_kept K0.out (b5.out)) rfl
    have n0 := cell_row (j := 0) (tb_kept K1.out (b5.out)) rfl
    have r0 := cell_row (j := 0) (tb_kept K2.out (b5.out)) rfl
    have r1 := cell_row (j := 1) (tb_kept K2.out (b5.out)) rfl
    have r2 := cell_row (j := 2) (tb_kept K2.out (b5.out)) rfl
    have r3 := cell_row (j := 3) (tb_kept K2.out (b5.out)) rfl
    have r4 := cell_row (j := 4) (tb_kept K2.out (b5.out)) rfl
    have r5 := cell_row (j := 5) (tb_kept K2.out (b5.out)) rfl
    have l0 := heap_lt (tb_kept K0.out (b5.out)); have l1 := heap_lt (tb_kept K1.out (b5.out)); have l2 := heap_lt (tb_kept K2.out (b5.out))
    by_cases hlt : k < T.pts.length
    · obtain ⟨pb, poff, rfl, hpb, x0⟩ := (HP.out.below b5.out).cell hlt
      have HC1 := Lib.hid (contains_int _ r.tr (T.pts.getD k 0) w5 (TR.out.below b5.out))
      have HC2 := Lib.hid (contains_int _ (ownP r) (k : Int) w5 (OW.out.below b45.out))
      have HNX : Hid ((!hasI r.tr (T.pts.getD k 0) || hasI (ownP r) (k : Int)) = true → ∀ p, p < k + 1 → (!hasI r.tr (T.pts.getD p 0) || hasI (ownP r) (p : Int)) = true) := fun h p hp => by
        by_cases e : p < k
        · exact NO.out p e
        · obtain rfl : p = k := by omega
          exact h
      have HNN : Hid (hasI r.tr (T.pts.getD k 0) = true → hasI (ownP r) (k : Int) = false → F = false) := fun h1 h2 => by rw [HF.out, inPtsB_no hlt h1 h2]; rfl
      generalize T.pts.getD k 0 = y at *
      cases g1 : hasI r.tr y
      case false =>
        have HX := Lib.hid (HNX.out (by rw [g1]; rfl))
        rw [g1] at HC1
        clear g1 HNN
        go_wp2_with fail
        (with_reducible refine HC1.out.mono ?_)
        rintro e w5 ⟨rfl, rfl⟩
        go_wp2_with fail
        go_roundw
        case rel => exact ⟨k + 1, by omega, by go_num, HX.out, b45.out⟩
        case measure => simp [intOf]; omega
      case true =>
        rw [g1] at HC1
        cases g2 : hasI (ownP r) (k : Int)
        case true =>
          have HX := Lib.hid (HNX.out (by rw [g2, Bool.or_true]))
          rw [g2] at HC2
          clear g1 g2 HNN
          go_wp2_with fail
          (with_reducible refine HC1.out.mono ?_)
          rintro e w5 ⟨rfl, rfl⟩
          go_wp2_with fail
          (with_reducible refine HC2.out.mono ?_)
          rintro e w5 ⟨rfl, rfl⟩
          go_wp2_with fail
          go_roundw
          case rel => exact ⟨k + 1, by omega, by go_num, HX.out, b45.out⟩
          case measure => simp [intOf]; omega
        case false =>
          have HX := Lib.hid (HNN.out g1 g2)
          rw [g2] at HC2
          clear g1 g2 HNN
          go_wp2_with fail
          (with_reducible refine HC1.out.mono ?_)
          rintro e w5 ⟨rfl, rfl⟩
          go_wp2_with fail
          (with_reducible refine HC2.out.mono ?_)
          rintro e w5 ⟨rfl, rfl⟩
          go_wp2_with fail
          go_ret
          exact ⟨congrArg (fun x => Ending.returned (.bool x)) HX.out.symm, B3.out.trans ((b5.out).mono B3.out.size)⟩
    · obtain rfl : k = T.pts.length := by omega
      have HIN : Hid (inPtsB T r = true) := inPtsB_iff.2 NO.out
      rw [HIN.out, Bool.true_and] at HF
      clear NO HIN b45
      have HC1 := Lib.hid (within_any _ r.con (m : Int) w5 (CO.out.below b5.out))
      have HC2 := Lib.hid (sorted_any _ r.con w5 (CO.out.below b5.out))
      cases t4 : withinI r.con (m : Int)
      case false =>
        rw [t4] at HC1
        have HX : Hid (F = false) := by show _ = _; rw [HF.out, t4]; rfl
        clear t4
        go_wp2_with fail
        (with_reducible refine HC1.out.mono ?_)
        rintro e w5 ⟨rfl, rfl⟩
        go_wp2_with fail
        go_ret
        exact ⟨congrArg (fun x => Ending.returned (.bool x)) HX.out.symm, B3.out.trans ((b5.out).mono B3.out.size)⟩
      case true =>
      rw [t4] at HC1
      rw [t4, Bool.true_and] at HF
      have HWI := Lib.hid (withinI_iff.1 t4)
      clear t4
      cases t5 : sortedI r.con
      case false =>
        rw [t5] at HC2
        have HX : Hid (F = false) := by show _ = _; rw [HF.out, t5]; rfl
        clear t5
        go_wp2_with fail
        (with_reducible refine HC1.out.mono ?_)
        rintro e w5 ⟨rfl, rfl⟩
        go_wp2_with fail
        (with_reducible refine HC2.out.mono ?_)
        rintro e w6 ⟨rfl, hb⟩
        have b6 := Lib.hid (b5.out.trans (hb.mono b5.out.size))
        clear hb
        go_wp2_with fail
        go_ret
        exact ⟨congrArg (fun x => Ending.returned (.bool x)) HX.out.symm, B3.out.trans ((b6.out).mono B3.out.size)⟩
      case true =>
      rw [t5] at HC2
      rw [t5, Bool.true_and] at HF
      clear t5
      go_wp2_with fail
      (with_reducible refine HC1.out.mono ?_)
      rintro e w5 ⟨rfl, rfl⟩
      go_wp2_with fail
      (with_reducible refine HC2.out.mono ?_)
      rintro e w6 ⟨rfl, hb⟩
      have b6 := Lib.hid (b5.out.trans (hb.mono b5.out.size))
      clear hb HC1 HC2
      clear c0 c1 c2 c3 n0 r0 r1 r2 r3 r4 r5 l0 l1 l2
      have c0 := cell_row (j := 0) (tb_kept K0.out (b6.out)) rfl
      have c1 := cell_row (j := 1) (tb_kept K0.out (b6.out)) rfl
      have c2 := cell_row (j := 2) (tb_kept K0.out (b6.out)) rfl
      have c3 := cell_row (j := 3) (tb_kept K0.out (b6.out)) rfl
      have n0 := cell_row (j := 0) (tb_kept K1.out (b6.out)) rfl
      have r0 := cell_row (j := 0) (tb_kept K2.out (b6.out)) rfl
      have r1 := cell_row (j := 1) (tb_kept K2.out (b6.out)) rfl
      have r2 := cell_row (j := 2) (tb_kept K2.out (b6.out)) rfl
      have r3 := cell_row (j := 3) (tb_kept K2.out (b6.out)) rfl
      have r4 := cell_row (j := 4) (tb_kept K2.out (b6.out)) rfl
      have r5 := cell_row (j := 5) (tb_kept K2.out (b6.out)) rfl
      have l0 := heap_lt (tb_kept K0.out (b6.out)); have l1 := heap_lt (tb_kept K1.out (b6.out)); have l2 := heap_lt (tb_kept K2.out (b6.out))
      have HC3 := Lib.hid (contains_int _ r.con (n : Int) w6 (CO.out.below b6.out))
      cases t6 : hasI r.con (n : Int)
      case true =>
        rw [t6] at HC3
        have HX : Hid (F = false) := by show _ = _; rw [HF.out, t6]; rfl
        clear t6
        go_wp2_with fail
        (with_reducible refine HC3.out.mono ?_)
        rintro e w6 ⟨rfl, rfl⟩
        go_wp2_with fail
        go_ret
        exact ⟨congrArg (fun x => Ending.returned (.bool x)) HX.out.symm, B3.out.trans ((b6.out).mono B3.out.size)⟩
      case false =>
      rw [t6] at HC3
      rw [t6, Bool.not_false, Bool.true_and] at HF
      clear t6
      go_wp2_with fail
      (with_reducible refine HC3.out.mono ?_)
      rintro e w6 ⟨rfl, rfl⟩
      clear HC3
      have HQ : Hid (Calls Tryz.prog 34 #[.slice ca r.con.length cc, .func (.func 79) #[] #[.pointer (some ⟨w.heap.size, 0, none⟩), .pointer (some ⟨w.heap.size + 1, 0, none⟩)]] w6 fun e w' => e = .returned (.bool (mutB T r n)) ∧ Below w6.heap.size w6 w') :=
        containsF_int _ r.con _ _ (fun k => !hasI (T.rts.getD k.toNat rt0).con (n : Int)) w6 (CO.out.below b6.out) (enters_of Tryz.func79 (by kernel_rfl) rfl)
          (fun i hi W hW => by
            have := HWI.out i hi
            have b7 := b6.out.trans (hW.mono b6.out.size)
            exact route1_any _ T _ _ n _ _ W this.1 (by rw [HLEN.out]; omega) (HRS.out.below b7) (tb_kept K0.out b7) (tb_kept K1.out b7))
      generalize mutB T r n = res at *
      go_wp2_with fail
      refine HQ.out.mono ?_
      rintro e w8 ⟨rfl, hb⟩
      have b8 := Lib.hid (b6.out.trans (hb.mono b6.out.size))
      clear hb
      have HX : Hid (F = !res) := HF.out
      go_wp2_with fail
      go_ret
      exact ⟨congrArg (fun x => Ending.returned (.bool x)) HX.out.symm, B3.out.trans (b8.out.mono B3.out.size)⟩
end Go.Proofs.YtpodedhnlicckaaGreatDoor
