/- The law AutoSafe, walked. -/
import Derived.Test.YtlfcmedhadfheaaAutSf
import Derived.Test.YtlfcmedhadfheaaAutB
namespace Go.Proofs.Ytlfcmedhadfheaa
open Go.RowKit
set_option linter.unusedVariables false
set_option linter.unusedSimpArgs false
theorem order0 (T : Tab) (g : FD) : orderS T g as0 = ⟨0, 0, 0, 0⟩ := by
  have h1 : ∀ k, prN T g as0.R k = 0 := fun k => by
    induction k with
    | zero => rfl
    | succ k ih => show (if procB g _ rs0 then _ else prN T g as0.R k) = 0; rw [ih]; rfl
  have h2 : ∀ k, noN as0.C k = 0 := fun k => by
    induction k with
    | zero => rfl
    | succ k ih => show noN as0.C k ||| _ = 0; rw [ih]; simp [as0]
  have h3 : ∀ k, reN as0.C k = 0 := fun k => by
    induction k with
    | zero => rfl
    | succ k ih => show reN as0.C k ||| _ = 0; rw [ih]; simp [as0]
  have h4 : ∀ k, loN as0.R k = 0 := fun k => by
    induction k with
    | zero => rfl
    | succ k ih => show (if (as0.R k).ph = 0 then loN as0.R k else _) = 0; rw [ih]; rfl
  unfold orderS
  rw [h1, h2, h3, h4]
theorem order_ok {T : Tab} (hT : TOk T) (f : FD) {S : AS} (hS : S.Ok) : (orderS T f S).Ok :=
  ⟨prN_lt T f S.R (fun n hn => by have := hT.sig n hn; omega) _ (Nat.le_refl _), noN_lt S.C hS.C _ hT.p, reN_lt S.C hS.C _ hT.p, loN_lt S.R _ hT.n⟩
set_option maxRecDepth 100000 in
set_option maxHeartbeats 8000000 in
theorem autosafe_walk (v vl : Value) (T : Tab) (l : List FD) (w : World) (hT : TabAt w v T) (hsm : TSm T) (hl : FdsAt w vl l) :
    Calls Try.prog 3 #[v, vl] w fun e w' => e = .returned (.bool true) ∧ Below w.heap.size w w' := by
  have HT0 := Lib.hid hT
  obtain ⟨⟨vp, vr, rfl, hP, hr⟩, _, _⟩ := hT
  obtain ⟨a, c, C0, rfl, hlc, hcm, _⟩ := hr.at_
  obtain ⟨⟨va, vc, rfl, hvl, hvm, _⟩, _⟩ := id hP
  have HL := Lib.hid hl.ok
  obtain ⟨fa, fc, rfl, hf1, hf2, hfs⟩ := hl.at_
  have HFS := Lib.hid hfs
  have HHO := Lib.hid (fun n hn => (hr.at_.elim fun a h => h.elim fun c h => h.elim fun C h => (h.2.2.2.2 n hn).holdOk))
  obtain ⟨w1, hw1⟩ : ∃ w1, w1 = w.alloc (.cells #[.int .i64 T.tracks, .slice va T.pts.length vc, .int .i64 T.sigs, .slice a T.rts.length c] 25) := ⟨_, rfl⟩
  have B1 : Hid (Below w.heap.size w w1) := by rw [hw1]; exact tb_alloc_below _ _
  have K1 : Hid (w1.heap[w.heap.size]? = some (.cells #[.int .i64 T.tracks, .slice va T.pts.length vc, .int .i64 T.sigs, .slice a T.rts.length c] 25 (0, 0))) := by rw [hw1]; exact heap_alloc_new _ _
  have HW1 := Lib.hid hw1
  have HGR := Lib.hid (great_any (.agg #[.int .i64 T.tracks, .slice va T.pts.length vc, .int .i64 T.sigs, .slice a T.rts.length c]) T w1 (HT0.out.below B1.out) hsm)
  unfold maxLen at hvm hcm hf2
  clear hw1 hP hr hl hfs hsm
  obtain ⟨tb, htb⟩ : ∃ b, b = w.heap.size := ⟨_, rfl⟩
  have HTB := Lib.hid htb
  rw [← htb] at K1
  go_enter Try.func3, Try.ntmps3
  go_upto_region 1 with fail
  rw [← HW1.out, ← htb]
  clear htb
  have c0 := cell_row (j := 0) K1.out rfl
  have c1 := cell_row (j := 1) K1.out rfl
  have c2 := cell_row (j := 2) K1.out rfl
  have c3 := cell_row (j := 3) K1.out rfl
  have l1 := heap_lt K1.out
  go_wp2_with fail
  refine HGR.out.mono ?_
  rintro e w2 ⟨rfl, hb⟩
  have B2 := Lib.hid (B1.out.trans (hb.mono B1.out.size))
  have K2 := Lib.hid (tb_kept K1.out hb)
  clear c0 c1 c2 c3 l1
  clear hb
  obtain ⟨g, hg⟩ : ∃ g, g = greatB T := ⟨_, rfl⟩
  have HGB := Lib.hid hg
  rw [← hg]
  clear hg
  cases g
  case true =>
    go_wp2_with fail
    have HWK := Lib.hid (works_any w2)
    go_wp2_with fail
    refine HWK.out.mono ?_
    rintro e wz ⟨rfl, hbz⟩
    have BZ := Lib.hid (B2.out.trans (hbz.mono (B2.out).size))
    clear hbz HWK
    go_wp2_with fail
    go_ret
    exact ⟨rfl, BZ.out⟩
  case false =>
  have HSM := Lib.hid (small_of HGB.out.symm)
  by_cases h3 : 1000 < l.length
  · have t3 : decide ((1000 : Int) < (l.length : Int)) = true := decide_eq_true (by omega)
    have HWK := Lib.hid (works_any w2)
    go_wp2_with fail
    refine HWK.out.mono ?_
    rintro e wz ⟨rfl, hbz⟩
    have BZ := Lib.hid (B2.out.trans (hbz.mono (B2.out).size))
    clear hbz HWK
    go_wp2_with fail
    go_ret
    exact ⟨rfl, BZ.out⟩
  have t3 : decide ((1000 : Int) < (l.length : Int)) = false := decide_eq_false (by omega)
  have c0 := cell_row (j := 0) K2.out rfl
  have c1 := cell_row (j := 1) K2.out rfl
  have c2 := cell_row (j := 2) K2.out rfl
  have c3 := cell_row (j := 3) K2.out rfl
  have l1 := heap_lt K2.out
  have HN := Lib.hid (new_any (.agg #[.int .i64 T.tracks, .slice va T.pts.length vc, .int .i64 T.sigs, .slice a T.rts.length c]) T w2 (HT0.out.below B2.out) HSM.out.big (fun h => tok_of h HHO.out))
  go_wp2_with fail
  refine HN.out.mono ?_
  rintro e w3 ⟨hb3, hif⟩
  have B3 := Lib.hid (B2.out.trans (hb3.mono B2.out.size))
  have K3 := Lib.hid (tb_kept K2.out hb3)
  have BB3 := Lib.hid hb3
  clear c0 c1 c2 c3 l1
  clear hb3 HN
  by_cases hE : checkE T = 0
  case neg =>
    rw [if_neg hE] at hif
    subst hif
    have HCK := Lib.hid (check_any (.agg #[.int .i64 T.tracks, .slice va T.pts.length vc, .int .i64 T.sigs, .slice a T.rts.length c]) T w3 (HT0.out.below B3.out) HSM.out.big)
    have t1 : (checkE T == 0) = false := by simpa using hE
    have t2 : (checkE T != 0) = true := by simpa using hE
    have c0 := cell_row (j := 0) K3.out rfl
    have c1 := cell_row (j := 1) K3.out rfl
    have c2 := cell_row (j := 2) K3.out rfl
    have c3 := cell_row (j := 3) K3.out rfl
    have l1 := heap_lt K3.out
    generalize checkE T = E at *
    go_wp2_with fail
    refine HCK.out.mono ?_
    rintro e w4 ⟨rfl, hb⟩
    have B4 := Lib.hid (B3.out.trans (hb.mono B3.out.size))
    clear hb
    clear c0 c1 c2 c3 l1
    have t5 : (E == E) = true := by simp
    have HWK := Lib.hid (works_any w4)
    go_wp2_with fail
    refine HWK.out.mono ?_
    rintro e wz ⟨rfl, hbz⟩
    have BZ := Lib.hid (B4.out.trans (hbz.mono (B4.out).size))
    clear hbz HWK
    go_wp2_with fail
    go_ret
    exact ⟨rfl, BZ.out⟩
  case pos =>
  rw [if_pos hE] at hif
  obtain ⟨u, rfl, hA, hTu, hu0, _⟩ := hif
  have hTOK := (tok_of hE HHO.out).1
  have HTOK := Lib.hid hTOK
  have HE := Lib.hid hE
  have A3 := Lib.hid hA; have HTU := Lib.hid hTu
  have HUB : Hid (w2.heap.size ≤ u.w0.heap.size) := hu0
  clear hA hTu hu0 hE hTOK
  obtain ⟨w4, hw4⟩ : ∃ W, W = w3.alloc (.cells #[.int .u32 0, .int .u32 0, .int .u32 0, .int .u32 0] 36) := ⟨_, rfl⟩
  have BA4 : Hid (Below w3.heap.size w3 w4) := by rw [hw4]; exact tb_alloc_below _ _
  have O4 : Hid (w4.heap[w3.heap.size]? = some (.cells #[.int .u32 0, .int .u32 0, .int .u32 0, .int .u32 0] 36 (0, 0))) := by rw [hw4]; exact heap_alloc_new _ _
  have HW4 := Lib.hid hw4
  have K4 := Lib.hid (tb_kept K3.out BA4.out)
  have A4 := Lib.hid (A3.out.below BA4.out)
  have B4 := Lib.hid (B3.out.trans (BA4.out.mono B3.out.size))
  have HNM : Hid (¬ u.M w3.heap.size ∧ ¬ u.M tb ∧ w.heap.size ≤ w3.heap.size ∧ tb < w3.heap.size) := ⟨A3.out.notM, fun hm => by
    have := A3.out.rB; have := A3.out.pB; have := HUB.out; have := heap_lt K2.out
    rcases hm with e | e <;> omega, B3.out.size, heap_lt K3.out⟩
  clear hw4
  go_upto_region 7 with fail
  rw [← HW4.out]
  obtain ⟨ob, hob⟩ : ∃ b, b = w3.heap.size := ⟨_, rfl⟩
  rw [← hob] at HNM O4 ⊢
  have HOB : Hid (u.w0.heap.size ≤ ob) := by have := A3.out.bel.size; rw [← hob] at this; exact this
  have HOG : Hid (u.g < ob) := by have := heap_lt A3.out.obj; rw [← hob] at this; exact this
  clear hob BA4 HW4 A3
  go_wp2_with fail
  go_loopw [35] (fun i wr => ∃ (k : Nat) (S : AS) (o : OD) (g : FD), k ≤ l.length ∧ i = .int .i64 k ∧ S.Ok ∧ Inv T S ∧ o = orderS T g S ∧ wr.heap[ob]? = some (.cells #[.int .u32 (o.pr : Int), .int .u32 (o.no : Int), .int .u32 (o.re : Int), .int .u32 (o.lo : Int)] 36 (0, 0)) ∧ wr.heap[tb]? = some (.cells #[.int .i64 T.tracks, .slice va T.pts.length vc, .int .i64 T.sigs, .slice a T.rts.length c] 25 (0, 0)) ∧ AutoAt wr u S ∧ Below w.heap.size w wr) (fun i _ => l.length - (intOf i).toNat)
  case atStart => exact ⟨0, as0, ⟨0, 0, 0, 0⟩, fd0, Nat.zero_le _, rfl, as0_ok, inv0 T, (order0 T fd0).symm, O4.out, K4.out, A4.out, B4.out⟩
  case round =>
    clear O4 K4 A4 B4
    obtain ⟨k, S, o, g, hk, rfl, hS, hI, ho, hO, hK, hA, hB⟩ := hrel
    have HS := Lib.hid hS; have HI := Lib.hid hI; have HO := Lib.hid ho; have O5 := Lib.hid hO; have K5 := Lib.hid hK; have A5 := Lib.hid hA; have B5 := Lib.hid hB
    clear hS hI ho hO hK hA hB
    by_cases hlt : k < l.length
    · obtain ⟨b, off, rfl, hb, hc⟩ := HFS.out.at (by omega)
      obtain ⟨f, hf⟩ : ∃ f, f = l.getD k fd0 := ⟨_, rfl⟩
      have HFO : Hid (f.Ok) := by rw [hf]; exact HL.out k hlt
      have x0 : wr.cell? ⟨b, off + k * 6, none⟩ = some (.int .u32 (f.cl : Int)) := by rw [B5.out.cell hb, hf]; exact hc k hlt 0 (by omega)
      have x1 : wr.cell? ⟨b, off + k * 6 + 1, none⟩ = some (.int .u32 (f.no : Int)) := by rw [B5.out.cell hb, hf]; exact hc k hlt 1 (by omega)
      have x2 : wr.cell? ⟨b, off + k * 6 + 2, none⟩ = some (.int .u32 (f.re : Int)) := by rw [B5.out.cell hb, hf]; exact hc k hlt 2 (by omega)
      have x3 : wr.cell? ⟨b, off + k * 6 + 3, none⟩ = some (.int .u32 (f.ak : Int)) := by rw [B5.out.cell hb, hf]; exact hc k hlt 3 (by omega)
      have x4 : wr.cell? ⟨b, off + k * 6 + 4, none⟩ = some (.int .u32 (f.ca : Int)) := by rw [B5.out.cell hb, hf]; exact hc k hlt 4 (by omega)
      have x5 : wr.cell? ⟨b, off + k * 6 + 5, none⟩ = some (.int .u32 (f.rq : Int)) := by rw [B5.out.cell hb, hf]; exact hc k hlt 5 (by omega)
      have hbl : b < wr.heap.size := Nat.lt_of_lt_of_le hb B5.out.size
      clear hc hf hb
      obtain ⟨w5, hw5⟩ : ∃ W, W = wr.alloc (.cells #[.int .u32 (f.cl : Int), .int .u32 (f.no : Int), .int .u32 (f.re : Int), .int .u32 (f.ak : Int), .int .u32 (f.ca : Int), .int .u32 (f.rq : Int)] 38) := ⟨_, rfl⟩
      have BA5 : Hid (Below wr.heap.size wr w5) := by rw [hw5]; exact tb_alloc_below _ _
      have KX5 : Hid (w5.heap[wr.heap.size]? = some (.cells #[.int .u32 (f.cl : Int), .int .u32 (f.no : Int), .int .u32 (f.re : Int), .int .u32 (f.ak : Int), .int .u32 (f.ca : Int), .int .u32 (f.rq : Int)] 38 (0, 0))) := by rw [hw5]; exact heap_alloc_new _ _
      have HW5 := Lib.hid hw5
      have A6 := Lib.hid (A5.out.below BA5.out)
      have O6 := Lib.hid (tb_kept O5.out BA5.out)
      have K6 := Lib.hid (tb_kept K5.out BA5.out)
      have B6 := Lib.hid (B5.out.trans (BA5.out.mono B5.out.size))
      have HXM : Hid (¬ u.M wr.heap.size) := A5.out.notM
      clear hw5
      go_upto_region 10 with fail
      rw [← HW5.out]
      clear x0 x1 x2 x3 x4 x5 hbl
      obtain ⟨xb, hxb⟩ : ∃ n, n = wr.heap.size := ⟨_, rfl⟩
      rw [← hxb] at KX5 HXM ⊢
      clear hxb HW5 BA5
      have y0 := cell_row (j := 0) KX5.out rfl; have y1 := cell_row (j := 1) KX5.out rfl; have y2 := cell_row (j := 2) KX5.out rfl
      have y3 := cell_row (j := 3) KX5.out rfl; have y4 := cell_row (j := 4) KX5.out rfl; have y5 := cell_row (j := 5) KX5.out rfl
      have ly := heap_lt KX5.out
      obtain ⟨S1, hS1⟩ : ∃ S1, S1 = stepS T f S := ⟨_, rfl⟩
      obtain ⟨n, hn⟩ : ∃ n, n = orderS T f S1 := ⟨_, rfl⟩
      have HSO1 : Hid (S1.Ok) := by show S1.Ok; rw [hS1]; exact stepS_ok HTOK.out f HS.out
      have HI1 : Hid (Inv T S1) := by show Inv T S1; rw [hS1]; exact step_inv HE.out HI.out
      have HSP : Hid (SafeP T f o n) := by show SafeP T f o n; rw [hn, HO.out, hS1]; exact safe_step HE.out HI.out HS.out.C (by rw [← hS1]; exact HSO1.out.C)
      have HOO : Hid (o.Ok) := by show o.Ok; rw [HO.out]; exact order_ok HTOK.out g HS.out
      have HNO : Hid (n.Ok) := by show n.Ok; rw [hn]; exact order_ok HTOK.out f HSO1.out
      have HSA : Hid (Calls Try.prog 13 #[.pointer (some ⟨u.g, 0, none⟩), .agg #[.int .u32 (f.cl : Int), .int .u32 (f.no : Int), .int .u32 (f.re : Int), .int .u32 (f.ak : Int), .int .u32 (f.ca : Int), .int .u32 (f.rq : Int)]] w5 fun e w' => e = .returned (.agg #[.int .u32 (n.pr : Int), .int .u32 (n.no : Int), .int .u32 (n.re : Int), .int .u32 (n.lo : Int)]) ∧ AutoAt w' u S1 ∧ Only u.M w5 w') := by
        refine (step_any u S f w5 A6.out HFO.out (by rw [HTU.out]; exact HTOK.out) HS.out).mono ?_
        rintro e V ⟨h1, h2, h3⟩
        rw [HTU.out, ← hS1] at h1 h2
        rw [← hn] at h1
        exact ⟨h1, h2, h3⟩
      have HN := Lib.hid hn
      clear hS1 hn
      go_wp2_with fail
      refine HSA.out.mono ?_
      rintro e w6 ⟨rfl, hA, hOn⟩
      have A7 := Lib.hid hA
      have O7 : Hid (w6.heap[ob]? = some (.cells #[.int .u32 (o.pr : Int), .int .u32 (o.no : Int), .int .u32 (o.re : Int), .int .u32 (o.lo : Int)] 36 (0, 0))) := (hOn.block _ (heap_lt O6.out) HNM.out.1).trans O6.out
      have K7 : Hid (w6.heap[tb]? = some (.cells #[.int .i64 T.tracks, .slice va T.pts.length vc, .int .i64 T.sigs, .slice a T.rts.length c] 25 (0, 0))) := (hOn.block _ (heap_lt K6.out) HNM.out.2.1).trans K6.out
      have X7 : Hid (w6.heap[xb]? = some (.cells #[.int .u32 (f.cl : Int), .int .u32 (f.no : Int), .int .u32 (f.re : Int), .int .u32 (f.ak : Int), .int .u32 (f.ca : Int), .int .u32 (f.rq : Int)] 38 (0, 0))) := (hOn.block _ (heap_lt KX5.out) HXM.out).trans KX5.out
      have B7 : Hid (Below w.heap.size w w6) := Only.toBelow B6.out hOn (fun b hm => Nat.le_trans B2.out.size (Au.M_lt hA HUB.out b hm)) B6.out.size
      clear hA hOn y0 y1 y2 y3 y4 y5 ly HSA A6 O6 K6 KX5 B6
      obtain ⟨w7, hw7⟩ : ∃ W, W = w6.alloc (.cells #[.int .u32 (n.pr : Int), .int .u32 (n.no : Int), .int .u32 (n.re : Int), .int .u32 (n.lo : Int)] 36) := ⟨_, rfl⟩
      have BA7 : Hid (Below w6.heap.size w6 w7) := by rw [hw7]; exact tb_alloc_below _ _
      have N8 : Hid (w7.heap[w6.heap.size]? = some (.cells #[.int .u32 (n.pr : Int), .int .u32 (n.no : Int), .int .u32 (n.re : Int), .int .u32 (n.lo : Int)] 36 (0, 0))) := by rw [hw7]; exact heap_alloc_new _ _
      have HW7 := Lib.hid hw7
      have A8 := Lib.hid (A7.out.below BA7.out)
      have O8 := Lib.hid (tb_kept O7.out BA7.out); have K8 := Lib.hid (tb_kept K7.out BA7.out); have X8 := Lib.hid (tb_kept X7.out BA7.out)
      have B8 := Lib.hid (B7.out.trans (BA7.out.mono B7.out.size))
      clear hw7
      go_upto_region 11 with fail
      rw [← HW7.out]
      obtain ⟨nb, hnb⟩ : ∃ n, n = w6.heap.size := ⟨_, rfl⟩
      rw [← hnb] at N8 ⊢
      clear hnb HW7 BA7 A7 O7 K7 X7 B7
      have HSF := Lib.hid (safe_any (.agg #[.int .i64 T.tracks, .slice va T.pts.length vc, .int .i64 T.sigs, .slice a T.rts.length c]) T f o n w7 (HT0.out.below B8.out) HE.out HFO.out HOO.out HNO.out HSP.out)
      have k0 := cell_row (j := 0) K8.out rfl; have k1 := cell_row (j := 1) K8.out rfl; have k2 := cell_row (j := 2) K8.out rfl; have k3 := cell_row (j := 3) K8.out rfl
      have x0 := cell_row (j := 0) X8.out rfl; have x1 := cell_row (j := 1) X8.out rfl; have x2 := cell_row (j := 2) X8.out rfl
      have x3 := cell_row (j := 3) X8.out rfl; have x4 := cell_row (j := 4) X8.out rfl; have x5 := cell_row (j := 5) X8.out rfl
      have o0 := cell_row (j := 0) O8.out rfl; have o1 := cell_row (j := 1) O8.out rfl; have o2 := cell_row (j := 2) O8.out rfl; have o3 := cell_row (j := 3) O8.out rfl
      have n0 := cell_row (j := 0) N8.out rfl; have n1 := cell_row (j := 1) N8.out rfl; have n2 := cell_row (j := 2) N8.out rfl; have n3 := cell_row (j := 3) N8.out rfl
      have lk := heap_lt K8.out; have lx := heap_lt X8.out; have lo := heap_lt O8.out; have ln := heap_lt N8.out
      go_wp2_with fail
      refine HSF.out.mono ?_
      rintro e w8 ⟨rfl, hb⟩
      have A9 := Lib.hid (A8.out.below hb)
      have O9 := Lib.hid (tb_kept O8.out hb); have K9 := Lib.hid (tb_kept K8.out hb); have N9 := Lib.hid (tb_kept N8.out hb)
      have B9 := Lib.hid (B8.out.trans (hb.mono B8.out.size))
      clear hb k0 k1 k2 k3 x0 x1 x2 x3 x4 x5 o0 o1 o2 o3 n0 n1 n2 n3 lk lx lo ln HSF A8 O8 K8 X8 N8 B8
      have n0 := cell_row (j := 0) N9.out rfl; have n1 := cell_row (j := 1) N9.out rfl; have n2 := cell_row (j := 2) N9.out rfl; have n3 := cell_row (j := 3) N9.out rfl
      have o0 := cell_row (j := 0) O9.out rfl; have o1 := cell_row (j := 1) O9.out rfl; have o2 := cell_row (j := 2) O9.out rfl; have o3 := cell_row (j := 3) O9.out rfl
      have fo : ∀ j, w8.frozen? ⟨ob, j, none⟩ = false := fun j => frozen_of_row _ _ _ _ _ O9.out
      have f0 := fo 0; have f1 := fo 1; have f2 := fo 2; have f3 := fo 3
      have lo := heap_lt O9.out; have ln := heap_lt N9.out
      clear fo
      go_upto_region 14 with fail
      obtain ⟨w9, hw9⟩ : ∃ W, W = (((w8.setCell ⟨ob, 0, none⟩ (.int .u32 (n.pr : Int))).setCell ⟨ob, 1, none⟩ (.int .u32 (n.no : Int))).setCell ⟨ob, 2, none⟩ (.int .u32 (n.re : Int))).setCell ⟨ob, 3, none⟩ (.int .u32 (n.lo : Int)) := ⟨_, rfl⟩
      rw [← hw9]
      have ON : Hid (w9.heap[ob]? = some (.cells #[.int .u32 (n.pr : Int), .int .u32 (n.no : Int), .int .u32 (n.re : Int), .int .u32 (n.lo : Int)] 36 (0, 0))) := by
        show _ = _
        have h0 := heap_setCell_same w8 ob 0 _ _ (.int .u32 (n.pr : Int)) O9.out
        have h1 := heap_setCell_same _ ob 1 _ _ (.int .u32 (n.no : Int)) h0
        have h2 := heap_setCell_same _ ob 2 _ _ (.int .u32 (n.re : Int)) h1
        have h3 := heap_setCell_same _ ob 3 _ _ (.int .u32 (n.lo : Int)) h2
        rw [hw9]; exact h3
      have L9 : Only (fun b => b = ob) w8 w9 := by
        rw [hw9]
        exact ((((Only.refl (fun b => b = ob) w8).set _ _ (.inr rfl)).set _ _ (.inr rfl)).set _ _ (.inr rfl)).set _ _ (.inr rfl)
      have AN := Lib.hid (A9.out.only L9 (fun b hb => by have := HNM.out; have := HOB.out; omega) (fun e => by have := HOG.out; omega) (fun e => HNM.out.1 (.inl e.symm)) (fun _ e => HNM.out.1 (.inr e.symm)))
      have KN : Hid (w9.heap[tb]? = some (.cells #[.int .i64 T.tracks, .slice va T.pts.length vc, .int .i64 T.sigs, .slice a T.rts.length c] 25 (0, 0))) := (L9.block _ (heap_lt K9.out) (by have := HNM.out.2.2.2; omega)).trans K9.out
      have BN : Hid (Below w.heap.size w w9) := Only.toBelow B9.out L9 (fun b hb => by have := HNM.out.2.2.1; omega) B9.out.size
      clear hw9 L9 n0 n1 n2 n3 o0 o1 o2 o3 f0 f1 f2 f3 lo ln A9 O9 K9 N9 B9
      go_wp2_with fail
      go_roundw
      case rel => exact ⟨k + 1, S1, n, f, by omega, by go_num, HSO1.out, HI1.out, HN.out, ON.out, KN.out, AN.out, BN.out⟩
      case measure => simp [intOf]; omega
    · have hkl : k = l.length := by omega
      have HWK := Lib.hid (works_any wr)
      go_wp2_with fail
      refine HWK.out.mono ?_
      rintro e wz ⟨rfl, hbz⟩
      have BZ := Lib.hid (B5.out.trans (hbz.mono (B5.out).size))
      clear hbz HWK
      go_wp2_with fail
      go_ret
      exact ⟨rfl, BZ.out⟩
set_option maxRecDepth 100000 in
theorem autosafe_any (v0 : Value) (a1 : Option Addr) (len1 cap1 : Nat) (w : World) (h0 : ReadsW w 25 v0.cells.toList ∧ Value.okWide Try.prog w .any 0 25 v0) (h1 : ReadsC w 26 [.slice a1 len1 cap1]) :
    Calls Try.prog 3 #[v0, .slice a1 len1 cap1] w fun e w' => e = .returned (.bool true) ∧ Below w.heap.size w w' := by
  obtain ⟨T, hT⟩ := reads_tab ⟨h0.1.c, h0.2⟩
  obtain ⟨l, hl⟩ := reads_fds h1
  exact autosafe_walk v0 _ T l w hT (tab_sm h0.1 hT) hl
end Go.Proofs.Ytlfcmedhadfheaa
