/- Safe, walked: of a safe order it says so. -/
import Derived.Test.YtlfcmedhadfheaaAutSfP
import Derived.Test.YtlfcmedhadfheaaAutKn
import Derived.Laws.EntriesVeiled
namespace Go.Proofs.Ytlfcmedhadfheaa
open Go.RowKit
set_option linter.unusedVariables false
set_option linter.unusedSimpArgs false
structure OD.Ok (o : OD) : Prop where
  pr : o.pr < 4294967296
  no : o.no < 4294967296
  re : o.re < 4294967296
  lo : o.lo < 4294967296
set_option maxHeartbeats 1000000 in
theorem sbit_s (x : Nat) (n : Nat) (w : World) (hx : x < 4294967296) :
    Calls Try.prog 34 #[.int .u32 (x : Int), .int .i64 (n : Int)] w fun e w' => e = .returned (.bool (x.testBit n)) ∧ w' = w := by
  have hb := Lib.hid (and_bit x n hx)
  go_enter Try.func34, Try.ntmps34
  go_wp2_with fail
  rw [hb.out]
  go_ret
  exact ⟨rfl, by first | trivial | rfl⟩
theorem W_drewN (w : World) (k : Nat) : Below w.heap.size w (w.drewN k) := ⟨rfl, rfl, rfl, Nat.le_refl _, fun _ _ => rfl⟩
set_option maxHeartbeats 1000000 in
theorem sbit_any (x : Nat) (n : Nat) (w : World) (hx : x < 4294967296) :
    Calls Try.prog 34 #[.int .u32 (x : Int), .int .i64 (n : Int)] w fun e w' => e = .returned (.bool (x.testBit n)) ∧ Below w.heap.size w w' := by
  have hb := Lib.hid (and_bit x n hx)
  go_enter Try.func34, Try.ntmps34
  go_wp2_with fail
  rw [hb.out]
  go_ret
  exact ⟨rfl, Below.refl _ _⟩
theorem shr_t {x k : Nat} (h : x >>> k = 0) : (((x : Int) / 2 ^ k) != 0) = false := by
  rw [Nat.shiftRight_eq_div_pow] at h
  have e : ((x : Int) / 2 ^ k) = ((x / 2 ^ k : Nat) : Int) := by simp
  rw [e, h]; rfl
def okB (f : FD) (lo : Nat) (T : Tab) (s j : Nat) : Bool := (List.range j).any fun n => goodB f lo s n (T.rts.getD n rt0)
theorem okB_succ (f : FD) (lo : Nat) (T : Tab) (s j : Nat) : okB f lo T s (j + 1) = (okB f lo T s j || goodB f lo s j (T.rts.getD j rt0)) := by
  unfold okB
  rw [List.range_succ, List.any_append]
  simp
theorem okB_at {f : FD} {lo : Nat} {T : Tab} {s : Nat} (h : ∃ n, n < T.rts.length ∧ goodB f lo s n (T.rts.getD n rt0) = true) : okB f lo T s T.rts.length = true := by
  obtain ⟨n, hn, hg⟩ := h
  exact List.any_eq_true.2 ⟨n, List.mem_range.2 hn, hg⟩
theorem all_take {α : Type} {l : List α} {m : Nat} {d : α} {p : α → Bool} (h : m < l.length) : (l.take (m + 1)).all p = ((l.take m).all p && p (l.getD m d)) := by
  rw [List.take_succ_eq_append_getElem h, List.all_append, List.getD_eq_getElem?_getD, List.getElem?_eq_getElem h]
  simp
/-- The five boxes of Safe. -/
structure SW (w wr : World) (tb fb wb nb bb : Nat) (TV FV WV NV : Array Value) : Prop where
  t : wr.heap[tb]? = some (.cells TV 25 (0, 0))
  f : wr.heap[fb]? = some (.cells FV 38 (0, 0))
  a : wr.heap[wb]? = some (.cells WV 36 (0, 0))
  n : wr.heap[nb]? = some (.cells NV 36 (0, 0))
  b : wr.heap[bb]? = some (.cells #[.func (.func 34) #[] #[]] 82 (0, 0))
  bel : Below w.heap.size w wr
theorem SW.below {w wr wv : World} {tb fb wb nb bb : Nat} {TV FV WV NV : Array Value} (h : SW w wr tb fb wb nb bb TV FV WV NV) (hb : Below wr.heap.size wr wv) : SW w wv tb fb wb nb bb TV FV WV NV :=
  ⟨tb_kept h.t hb, tb_kept h.f hb, tb_kept h.a hb, tb_kept h.n hb, tb_kept h.b hb, h.bel.trans (hb.mono h.bel.size)⟩
theorem safe2_any (k : Int) (now : OD) (bb nb : Nat) (w : World) (hk : 0 ≤ k) (hlo : now.lo < 4294967296) (hb : w.heap[bb]? = some (.cells #[.func (.func 34) #[] #[]] 82 (0, 0))) (hn : w.heap[nb]? = some (.cells #[.int .u32 (now.pr : Int), .int .u32 (now.no : Int), .int .u32 (now.re : Int), .int .u32 (now.lo : Int)] 36 (0, 0))) :
    Calls Try.prog 35 #[.int .i64 k, .pointer (some ⟨bb, 0, none⟩), .pointer (some ⟨nb, 0, none⟩)] w fun e w' => e = .returned (.bool (bt now.lo k)) ∧ Below w.heap.size w w' := by
  obtain ⟨j, rfl⟩ := Int.eq_ofNat_of_zero_le hk
  show Calls _ _ _ _ fun e w' => e = .returned (.bool (now.lo.testBit j)) ∧ _
  have HS := Lib.hid (fun W => sbit_any now.lo j W hlo)
  have b0 := cell_row (j := 0) hb rfl
  have n3 := cell_row (j := 3) hn rfl
  have l1 := heap_lt hb; have l2 := heap_lt hn
  generalize now.lo.testBit j = r at *
  clear hb hn
  go_enter Try.func35, Try.ntmps35
  go_wp2_with fail
  refine (HS.out _).mono ?_
  rintro e w2 ⟨rfl, hb⟩
  have B2 := Lib.hid hb
  clear hb
  go_wp2_with fail
  go_ret
  exact ⟨rfl, B2.out⟩
theorem safe3_any (x : Int × Bool) (p : Nat) (pb : Nat) (w : World) (hp : w.heap[pb]? = some (.cells #[.int .i64 (p : Int)] 3 (0, 0))) :
    Calls Try.prog 37 #[.agg #[.int .i64 x.1, .bool x.2], .pointer (some ⟨pb, 0, none⟩)] w fun e w' => e = .returned (.bool (x.1 == (p : Int))) ∧ Below w.heap.size w w' := by
  obtain ⟨y, z⟩ := x
  simp only
  have p0 := cell_row (j := 0) hp rfl
  have l1 := heap_lt hp
  have B1 : Hid (Below w.heap.size w (w.alloc (.cells #[.int .i64 y, .bool z] 67))) := tb_alloc_below _ _
  clear hp
  go_enter Try.func37, Try.ntmps37
  go_wp2_with fail
  go_ret
  exact ⟨rfl, B1.out⟩
set_option maxRecDepth 100000 in
set_option maxHeartbeats 8000000 in
theorem safe_any (v : Value) (T : Tab) (f : FD) (was now : OD) (w : World) (hT : TabAt w v T) (hE : checkE T = 0) (hf : f.Ok) (hwas : was.Ok) (hnow : now.Ok) (hS : SafeP T f was now) :
    Calls Try.prog 14 #[v, .agg #[.int .u32 (f.cl : Int), .int .u32 (f.no : Int), .int .u32 (f.re : Int), .int .u32 (f.ak : Int), .int .u32 (f.ca : Int), .int .u32 (f.rq : Int)], .agg #[.int .u32 (was.pr : Int), .int .u32 (was.no : Int), .int .u32 (was.re : Int), .int .u32 (was.lo : Int)], .agg #[.int .u32 (now.pr : Int), .int .u32 (now.no : Int), .int .u32 (now.re : Int), .int .u32 (now.lo : Int)]] w fun e w' => e = .returned (.bool true) ∧ Below w.heap.size w w' := by
  have HS := Lib.hid hS; have HF := Lib.hid hf; have HWA := Lib.hid hwas; have HNO := Lib.hid hnow
  have HT0 := Lib.hid hT
  obtain ⟨⟨vp, vr, rfl, hP, hr⟩, _, _⟩ := hT
  obtain ⟨a, c, C0, rfl, hlc, hcm, _⟩ := hr.at_
  obtain ⟨⟨va, vc, rfl, hvl, hvm, _⟩, _⟩ := id hP
  obtain ⟨rb, ro, _, rfl, hrb, _, _⟩ := hr.cells (i := 0) (ckOk hE).n1
  have HR := Lib.hid hr; have HP := Lib.hid hP; have HE := Lib.hid hE; have HRB := Lib.hid hrb
  have HTI := Lib.hid (tin_of hE)
  obtain ⟨s, hs⟩ := Int.eq_ofNat_of_zero_le (show 0 ≤ T.sigs by have := (ckOk hE).s1; omega)
  have HSG := Lib.hid hs
  have hN := (ckOk hE).n2
  have hP12 := (ckOk hE).p
  have hs12 : s ≤ 12 := by have := (ckOk hE).s2; omega
  have HSB := Lib.hid sbit_any
  unfold maxLen at hvm hcm
  rw [hs]
  obtain ⟨w5, hw5⟩ : ∃ w5, w5 = ((((w.alloc (.cells #[.int .i64 T.tracks, .slice va T.pts.length vc, .int .i64 (s : Int), .slice (some ⟨rb, ro, none⟩) T.rts.length c] 25)).alloc (.cells #[.int .u32 (f.cl : Int), .int .u32 (f.no : Int), .int .u32 (f.re : Int), .int .u32 (f.ak : Int), .int .u32 (f.ca : Int), .int .u32 (f.rq : Int)] 38)).alloc (.cells #[.int .u32 (was.pr : Int), .int .u32 (was.no : Int), .int .u32 (was.re : Int), .int .u32 (was.lo : Int)] 36)).alloc (.cells #[.int .u32 (now.pr : Int), .int .u32 (now.no : Int), .int .u32 (now.re : Int), .int .u32 (now.lo : Int)] 36)).alloc (.cells #[.func (.func 34) #[] #[]] 82) := ⟨_, rfl⟩
  have P5 : Hid (SW w w5 w.heap.size (w.heap.size + 1) (w.heap.size + 2) (w.heap.size + 3) (w.heap.size + 4) #[.int .i64 T.tracks, .slice va T.pts.length vc, .int .i64 (s : Int), .slice (some ⟨rb, ro, none⟩) T.rts.length c] #[.int .u32 (f.cl : Int), .int .u32 (f.no : Int), .int .u32 (f.re : Int), .int .u32 (f.ak : Int), .int .u32 (f.ca : Int), .int .u32 (f.rq : Int)] #[.int .u32 (was.pr : Int), .int .u32 (was.no : Int), .int .u32 (was.re : Int), .int .u32 (was.lo : Int)] #[.int .u32 (now.pr : Int), .int .u32 (now.no : Int), .int .u32 (now.re : Int), .int .u32 (now.lo : Int)]) := by
    have a1 := heap_alloc_new w (.cells #[.int .i64 T.tracks, .slice va T.pts.length vc, .int .i64 (s : Int), .slice (some ⟨rb, ro, none⟩) T.rts.length c] 25)
    have b1 := tb_alloc_below w (.cells #[.int .i64 T.tracks, .slice va T.pts.length vc, .int .i64 (s : Int), .slice (some ⟨rb, ro, none⟩) T.rts.length c] 25)
    have z1 : (w.alloc (.cells #[.int .i64 T.tracks, .slice va T.pts.length vc, .int .i64 (s : Int), .slice (some ⟨rb, ro, none⟩) T.rts.length c] 25)).heap.size = w.heap.size + 1 := Array.size_push _
    generalize w.alloc (.cells #[.int .i64 T.tracks, .slice va T.pts.length vc, .int .i64 (s : Int), .slice (some ⟨rb, ro, none⟩) T.rts.length c] 25) = v1 at *
    have a2 := heap_alloc_new v1 (.cells #[.int .u32 (f.cl : Int), .int .u32 (f.no : Int), .int .u32 (f.re : Int), .int .u32 (f.ak : Int), .int .u32 (f.ca : Int), .int .u32 (f.rq : Int)] 38)
    have b2 := tb_alloc_below v1 (.cells #[.int .u32 (f.cl : Int), .int .u32 (f.no : Int), .int .u32 (f.re : Int), .int .u32 (f.ak : Int), .int .u32 (f.ca : Int), .int .u32 (f.rq : Int)] 38)
    have z2 : (v1.alloc (.cells #[.int .u32 (f.cl : Int), .int .u32 (f.no : Int), .int .u32 (f.re : Int), .int .u32 (f.ak : Int), .int .u32 (f.ca : Int), .int .u32 (f.rq : Int)] 38)).heap.size = v1.heap.size + 1 := Array.size_push _
    generalize v1.alloc (.cells #[.int .u32 (f.cl : Int), .int .u32 (f.no : Int), .int .u32 (f.re : Int), .int .u32 (f.ak : Int), .int .u32 (f.ca : Int), .int .u32 (f.rq : Int)] 38) = v2 at *
    have a3 := heap_alloc_new v2 (.cells #[.int .u32 (was.pr : Int), .int .u32 (was.no : Int), .int .u32 (was.re : Int), .int .u32 (was.lo : Int)] 36)
    have b3 := tb_alloc_below v2 (.cells #[.int .u32 (was.pr : Int), .int .u32 (was.no : Int), .int .u32 (was.re : Int), .int .u32 (was.lo : Int)] 36)
    have z3 : (v2.alloc (.cells #[.int .u32 (was.pr : Int), .int .u32 (was.no : Int), .int .u32 (was.re : Int), .int .u32 (was.lo : Int)] 36)).heap.size = v2.heap.size + 1 := Array.size_push _
    generalize v2.alloc (.cells #[.int .u32 (was.pr : Int), .int .u32 (was.no : Int), .int .u32 (was.re : Int), .int .u32 (was.lo : Int)] 36) = v3 at *
    have a4 := heap_alloc_new v3 (.cells #[.int .u32 (now.pr : Int), .int .u32 (now.no : Int), .int .u32 (now.re : Int), .int .u32 (now.lo : Int)] 36)
    have b4 := tb_alloc_below v3 (.cells #[.int .u32 (now.pr : Int), .int .u32 (now.no : Int), .int .u32 (now.re : Int), .int .u32 (now.lo : Int)] 36)
    have z4 : (v3.alloc (.cells #[.int .u32 (now.pr : Int), .int .u32 (now.no : Int), .int .u32 (now.re : Int), .int .u32 (now.lo : Int)] 36)).heap.size = v3.heap.size + 1 := Array.size_push _
    generalize v3.alloc (.cells #[.int .u32 (now.pr : Int), .int .u32 (now.no : Int), .int .u32 (now.re : Int), .int .u32 (now.lo : Int)] 36) = v4 at *
    have a5 := heap_alloc_new v4 (.cells #[.func (.func 34) #[] #[]] 82)
    have b5 := tb_alloc_below v4 (.cells #[.func (.func 34) #[] #[]] 82)
    generalize v4.alloc (.cells #[.func (.func 34) #[] #[]] 82) = v5 at *
    subst hw5
    rw [z1] at a2 z2; rw [z2] at a3 z3; rw [z3] at a4 z4; rw [z4] at a5
    exact ⟨tb_kept (tb_kept (tb_kept (tb_kept a1 b2) b3) b4) b5, tb_kept (tb_kept (tb_kept a2 b3) b4) b5, tb_kept (tb_kept a3 b4) b5, tb_kept a4 b5, a5,
      b1.trans ((b2.trans ((b3.trans ((b4.trans (b5.mono (by omega))).mono (by omega))).mono (by omega))).mono (by omega))⟩
  have HW5 := Lib.hid hw5
  clear hw5 hP hr hrb hf hwas hnow hS hE hs
  obtain ⟨tb, htb⟩ : ∃ b, b = w.heap.size := ⟨_, rfl⟩
  obtain ⟨fb, hfb⟩ : ∃ b, b = w.heap.size + 1 := ⟨_, rfl⟩
  obtain ⟨wb, hwb⟩ : ∃ b, b = w.heap.size + 2 := ⟨_, rfl⟩
  obtain ⟨nb, hnb⟩ : ∃ b, b = w.heap.size + 3 := ⟨_, rfl⟩
  obtain ⟨bb, hbb⟩ : ∃ b, b = w.heap.size + 4 := ⟨_, rfl⟩
  have HNUM : Hid (w.heap.size = tb ∧ w.heap.size + 1 = fb ∧ w.heap.size + 2 = wb ∧ w.heap.size + 3 = nb ∧ w.heap.size + 4 = bb) := ⟨htb.symm, hfb.symm, hwb.symm, hnb.symm, hbb.symm⟩
  rw [← hbb, ← hnb, ← hwb, ← hfb, ← htb] at P5
  clear htb hfb hwb hnb hbb
  go_enter Try.func14, Try.ntmps14
  go_upto_region 2 with fail
  rw [← HW5.out, HNUM.out.2.2.2.2, HNUM.out.2.2.2.1, HNUM.out.2.2.1, HNUM.out.2.1, HNUM.out.1]
  have t3 := cell_row (j := 3) P5.out.t rfl
  have lt := heap_lt P5.out.t
  go_wp2_with fail
  clear t3 lt
  go_loopw [29] (fun i wr => ∃ k : Nat, k ≤ T.rts.length ∧ i = .int .i64 k ∧ SW w wr tb fb wb nb bb #[.int .i64 T.tracks, .slice va T.pts.length vc, .int .i64 (s : Int), .slice (some ⟨rb, ro, none⟩) T.rts.length c] #[.int .u32 (f.cl : Int), .int .u32 (f.no : Int), .int .u32 (f.re : Int), .int .u32 (f.ak : Int), .int .u32 (f.ca : Int), .int .u32 (f.rq : Int)] #[.int .u32 (was.pr : Int), .int .u32 (was.no : Int), .int .u32 (was.re : Int), .int .u32 (was.lo : Int)] #[.int .u32 (now.pr : Int), .int .u32 (now.no : Int), .int .u32 (now.re : Int), .int .u32 (now.lo : Int)]) (fun i _ => T.rts.length - (intOf i).toNat)
  case atStart => exact ⟨0, Nat.zero_le _, rfl, P5.out⟩
  case round =>
    clear P5
    obtain ⟨k, hk, rfl, hp⟩ := hrel
    have P6 := Lib.hid hp
    clear hp
    by_cases hlt : k < T.rts.length
    case pos =>
      obtain ⟨rb', ro', C', e, hrb', hrc, hrr⟩ := HR.out.cells (i := k) hlt
      cases e
      have x0 := (P6.out.bel.cell hrb').trans (hrc 0 (by omega)); have x1 := (P6.out.bel.cell hrb').trans (hrc 1 (by omega)); have x2 := (P6.out.bel.cell hrb').trans (hrc 2 (by omega)); have x3 := (P6.out.bel.cell hrb').trans (hrc 3 (by omega)); have x4 := (P6.out.bel.cell hrb').trans (hrc 4 (by omega)); have x5 := (P6.out.bel.cell hrb').trans (hrc 5 (by omega))
      rw [Nat.add_zero] at x0
      obtain ⟨A, hA⟩ : ∃ A, A = T.rts.getD k rt0 := ⟨_, rfl⟩
      rw [← hA] at hrr
      obtain ⟨⟨ta, tc, ht, ht1, ht2, _⟩, _⟩ := id hrr.tr
      obtain ⟨⟨pa, pc, hp, hp1, hp2, _⟩, _⟩ := id hrr.pts
      obtain ⟨⟨ca, cc, hcn, hc1, hc2, _⟩, _⟩ := id hrr.con
      rw [hrr.sig] at x0; rw [ht] at x1; rw [hp] at x2; rw [hrr.app] at x3; rw [hcn] at x4; rw [hrr.hold] at x5
      have HTR : Hid (IntsAt w (.slice ta A.tr.length tc) A.tr) := ht ▸ hrr.tr
      have HPT : Hid (PtsAt w (.slice pa A.pts.length pc) A.pts) := hp ▸ hrr.pts
      have HCN : Hid (IntsAt w (.slice ca A.con.length cc) A.con) := hcn ▸ hrr.con
      have HA := Lib.hid hA
      obtain ⟨w7, hw7⟩ : ∃ W, W = wr.alloc (.cells #[.int .i64 A.sig, .slice ta A.tr.length tc, .slice pa A.pts.length pc, .int .i64 A.app, .slice ca A.con.length cc, .int .u16 (A.hold : Int)] 46) := ⟨_, rfl⟩
      have BA7 : Hid (Below wr.heap.size wr w7) := by rw [hw7]; exact tb_alloc_below _ _
      have P7 := Lib.hid (P6.out.below BA7.out)
      have K7 : Hid (w7.heap[wr.heap.size]? = some (.cells #[.int .i64 A.sig, .slice ta A.tr.length tc, .slice pa A.pts.length pc, .int .i64 A.app, .slice ca A.con.length cc, .int .u16 (A.hold : Int)] 46 (0, 0))) := by rw [hw7]; exact heap_alloc_new _ _
      have HW7 := Lib.hid hw7
      have lr : rb < wr.heap.size := Nat.lt_of_lt_of_le HRB.out P6.out.bel.size
      unfold maxLen at ht2 hp2 hc2
      clear hrb' hrc hrr hA ht hp hcn hw7
      go_upto_region 5 with fail
      rw [← HW7.out]
      clear x0 x1 x2 x3 x4 x5 lr HW7
      obtain ⟨ab, hab⟩ : ∃ ab, ab = wr.heap.size := ⟨_, rfl⟩
      rw [← hab] at K7 ⊢
      have BA6 := BA7
      clear hab BA7
      have b0 := cell_row (j := 0) P7.out.b rfl
      have n3 := cell_row (j := 3) P7.out.n rfl
      have k4 := cell_row (j := 4) K7.out rfl
      have lb := heap_lt P7.out.b; have ln := heap_lt P7.out.n; have lk := heap_lt K7.out
      have HB := Lib.hid (HSB.out now.lo k w7 HNO.out.lo)
      cases hl : now.lo.testBit k
      case false =>
        rw [hl] at HB
        clear hl
        go_wp2_with fail
        refine HB.out.mono ?_
        rintro e w8 ⟨rfl, hb⟩
        have P8 := Lib.hid (P7.out.below hb)
        clear hb b0 n3 k4 lb ln lk
        go_wp2_with fail
        go_roundw
        case rel => exact ⟨k + 1, by omega, by go_num, P8.out⟩
        case measure => simp [intOf]; omega
      case true =>
        rw [hl] at HB
        have HANY : Hid ((A.con.any fun k => bt now.lo k) = false) := by rw [HA.out]; exact HS.out.c1 k hlt hl
        clear hl
        have HPOS : Hid (∀ i, i < A.con.length → 0 ≤ A.con.getD i 0) := fun i hi => by rw [HA.out] at hi ⊢; exact (withinI_iff.1 (rtOk ((ckOk HE.out).rt k hlt)).cw i hi).1
        go_wp2_with fail
        refine HB.out.mono ?_
        rintro e w8 ⟨rfl, hb⟩
        have P8 := Lib.hid (P7.out.below hb)
        have K8 := Lib.hid (tb_kept K7.out hb)
        clear hb b0 n3 k4 lb ln lk
        have k4 := cell_row (j := 4) K8.out rfl
        have lk := heap_lt K8.out
        have HQ : Hid (Calls Try.prog 25 #[.slice ca A.con.length cc, .func (.func 35) #[] #[.pointer (some ⟨bb, 0, none⟩), .pointer (some ⟨nb, 0, none⟩)]] w8 fun e w' => e = .returned (.bool (A.con.any fun k => bt now.lo k)) ∧ Below w8.heap.size w8 w') :=
          containsF_int _ A.con _ _ (fun k => bt now.lo k) w8 (HCN.out.below P8.out.bel) (enters_of Try.func35 (by kernel_rfl) rfl)
            (fun i hi W hW => safe2_any _ now bb nb W (HPOS.out i hi) HNO.out.lo (tb_kept P8.out.b hW) (tb_kept P8.out.n hW))
        rw [HANY.out] at HQ
        go_wp2_with fail
        refine HQ.out.mono ?_
        rintro e w9 ⟨rfl, hb⟩
        have P9 := Lib.hid (P8.out.below hb)
        clear hb k4 lk
        go_wp2_with fail
        go_roundw
        case rel => exact ⟨k + 1, by omega, by go_num, P9.out⟩
        case measure => simp [intOf]; omega
    case neg =>
    obtain rfl : k = T.rts.length := by omega
    have t1 := cell_row (j := 1) P6.out.t rfl; have t2 := cell_row (j := 2) P6.out.t rfl; have t3 := cell_row (j := 3) P6.out.t rfl
    have n0 := cell_row (j := 0) P6.out.n rfl; have n1 := cell_row (j := 1) P6.out.n rfl; have n2 := cell_row (j := 2) P6.out.n rfl; have n3 := cell_row (j := 3) P6.out.n rfl
    have lt := heap_lt P6.out.t; have ln := heap_lt P6.out.n
    have HLO := Lib.hid (shr_t HS.out.lo)
    have HPR := Lib.hid (shr_t (show now.pr >>> s = 0 by have := HS.out.pr; rw [HSG.out] at this; exact this))
    have HNR := Lib.hid (shr_t HS.out.nr)
    have ta1 : bits .or .u32 (now.no : Int) (now.re : Int) = ((now.no ||| now.re : Nat) : Int) := u32_or_nat _ _ HNO.out.no HNO.out.re
    have ta2 : bits .and .u32 (now.no : Int) (now.re : Int) = 0 := by rw [u32_and_nat _ _ HNO.out.no HNO.out.re, HS.out.na]; rfl
    have tb1 := HLO.out; have tb2 := HPR.out; have tb3 := HNR.out
    clear HLO HPR HNR
    go_wp2_with fail
    clear t1 t2 t3 n0 n1 n2 n3 lt ln ta1 ta2 tb1 tb2 tb3
    go_loopw [83] (fun i wr => ∃ k : Nat, k ≤ s ∧ i = .int .i64 k ∧ SW w wr tb fb wb nb bb #[.int .i64 T.tracks, .slice va T.pts.length vc, .int .i64 (s : Int), .slice (some ⟨rb, ro, none⟩) T.rts.length c] #[.int .u32 (f.cl : Int), .int .u32 (f.no : Int), .int .u32 (f.re : Int), .int .u32 (f.ak : Int), .int .u32 (f.ca : Int), .int .u32 (f.rq : Int)] #[.int .u32 (was.pr : Int), .int .u32 (was.no : Int), .int .u32 (was.re : Int), .int .u32 (was.lo : Int)] #[.int .u32 (now.pr : Int), .int .u32 (now.no : Int), .int .u32 (now.re : Int), .int .u32 (now.lo : Int)]) (fun i _ => s - (intOf i).toNat)
    case atStart => exact ⟨0, Nat.zero_le _, rfl, P6.out⟩
    case round =>
      clear P6
      obtain ⟨q, hq, rfl, hp⟩ := hrel
      have P1 := Lib.hid hp
      clear hp
      by_cases hlq : q < s
      case pos =>
        have b0 := cell_row (j := 0) P1.out.b rfl
        have n0 := cell_row (j := 0) P1.out.n rfl
        have lb := heap_lt P1.out.b; have ln := heap_lt P1.out.n
        have HB := Lib.hid (HSB.out now.pr q wr HNO.out.pr)
        cases hl : now.pr.testBit q
        case false =>
          rw [hl] at HB
          clear hl
          go_wp2_with fail
          refine HB.out.mono ?_
          rintro e w8 ⟨rfl, hb⟩
          have P8 := Lib.hid (P1.out.below hb)
          clear hb b0 n0 lb ln
          go_wp2_with fail
          go_roundw
          case rel => exact ⟨q + 1, by omega, by go_num, P8.out⟩
          case measure => simp [intOf]; omega
        case true =>
          have HEX := Lib.hid (okB_at (HS.out.c3 q (by rw [HSG.out]; omega) hl))
          rw [hl] at HB
          clear hl
          go_wp2_with fail
          refine HB.out.mono ?_
          rintro e w8 ⟨rfl, hb⟩
          have P8 := Lib.hid (P1.out.below hb)
          clear hb b0 n0 lb ln HB
          have t3 := cell_row (j := 3) P8.out.t rfl
          have lt := heap_lt P8.out.t
          go_wp2_with fail
          clear t3 lt
          go_loopw [95, 13] (fun i o wr => ∃ j : Nat, j ≤ T.rts.length ∧ i = .int .i64 j ∧ o = .bool (okB f now.lo T q j) ∧ SW w wr tb fb wb nb bb #[.int .i64 T.tracks, .slice va T.pts.length vc, .int .i64 (s : Int), .slice (some ⟨rb, ro, none⟩) T.rts.length c] #[.int .u32 (f.cl : Int), .int .u32 (f.no : Int), .int .u32 (f.re : Int), .int .u32 (f.ak : Int), .int .u32 (f.ca : Int), .int .u32 (f.rq : Int)] #[.int .u32 (was.pr : Int), .int .u32 (was.no : Int), .int .u32 (was.re : Int), .int .u32 (was.lo : Int)] #[.int .u32 (now.pr : Int), .int .u32 (now.no : Int), .int .u32 (now.re : Int), .int .u32 (now.lo : Int)]) (fun i _ _ => T.rts.length - (intOf i).toNat)
          case atStart => exact ⟨0, Nat.zero_le _, rfl, rfl, P8.out⟩
          case round =>
            clear P8 P1
            obtain ⟨j, hj, rfl, rfl, hp⟩ := hrel
            have P1 := Lib.hid hp
            clear hp
            by_cases hlj : j < T.rts.length
            case pos =>
              have HJ := Lib.hid hlj
              have HTPOS0 := Lib.hid (fun m hm => (HTI.out.tr j hlj m hm).1)
              have HPPOS0 := Lib.hid (fun m hm => (HTI.out.pp j hlj m hm).1)
              have htl0 := HTI.out.tl j hlj
              obtain ⟨rb', ro', C', e, hrb', hrc, hrr⟩ := HR.out.cells (i := j) hlj
              cases e
              have x0 := (P1.out.bel.cell hrb').trans (hrc 0 (by omega)); have x1 := (P1.out.bel.cell hrb').trans (hrc 1 (by omega)); have x2 := (P1.out.bel.cell hrb').trans (hrc 2 (by omega)); have x3 := (P1.out.bel.cell hrb').trans (hrc 3 (by omega)); have x4 := (P1.out.bel.cell hrb').trans (hrc 4 (by omega)); have x5 := (P1.out.bel.cell hrb').trans (hrc 5 (by omega))
              rw [Nat.add_zero] at x0
              obtain ⟨A, hA⟩ : ∃ A, A = T.rts.getD j rt0 := ⟨_, rfl⟩
              rw [← hA] at hrr
              obtain ⟨⟨ta, tc, ht, ht1, ht2, _⟩, _⟩ := id hrr.tr
              obtain ⟨⟨pa, pc, hp, hp1, hp2, _⟩, _⟩ := id hrr.pts
              obtain ⟨⟨ca, cc, hcn, hc1, hc2, _⟩, _⟩ := id hrr.con
              rw [hrr.sig] at x0; rw [ht] at x1; rw [hp] at x2; rw [hrr.app] at x3; rw [hcn] at x4; rw [hrr.hold] at x5
              have HTR : Hid (IntsAt w (.slice ta A.tr.length tc) A.tr) := ht ▸ hrr.tr
              have HPT : Hid (PtsAt w (.slice pa A.pts.length pc) A.pts) := hp ▸ hrr.pts
              have HCN : Hid (IntsAt w (.slice ca A.con.length cc) A.con) := hcn ▸ hrr.con
              have HA := Lib.hid hA
              obtain ⟨w2, hw7⟩ : ∃ W, W = wr.alloc (.cells #[.int .i64 A.sig, .slice ta A.tr.length tc, .slice pa A.pts.length pc, .int .i64 A.app, .slice ca A.con.length cc, .int .u16 (A.hold : Int)] 46) := ⟨_, rfl⟩
              have BA7 : Hid (Below wr.heap.size wr w2) := by rw [hw7]; exact tb_alloc_below _ _
              have P2 := Lib.hid (P1.out.below BA7.out)
              have K2 : Hid (w2.heap[wr.heap.size]? = some (.cells #[.int .i64 A.sig, .slice ta A.tr.length tc, .slice pa A.pts.length pc, .int .i64 A.app, .slice ca A.con.length cc, .int .u16 (A.hold : Int)] 46 (0, 0))) := by rw [hw7]; exact heap_alloc_new _ _
              have HW7 := Lib.hid hw7
              have lr : rb < wr.heap.size := Nat.lt_of_lt_of_le HRB.out P1.out.bel.size
              unfold maxLen at ht2 hp2 hc2
              clear hrb' hrc hrr hA ht hp hcn hw7
              go_upto_region 18 with fail
              rw [← HW7.out]
              clear x0 x1 x2 x3 x4 x5 lr HW7
              obtain ⟨ab, hab⟩ : ∃ ab, ab = wr.heap.size := ⟨_, rfl⟩
              rw [← hab] at K2 ⊢
              have BA6 := BA7
              clear hab BA7
              rw [← HA.out] at HTPOS0 HPPOS0 htl0
              have HTPOS : Hid (∀ m, m < A.tr.length → 0 ≤ A.tr.getD m 0) := HTPOS0.out
              have HPPOS : Hid (∀ m, m < A.pts.length → 0 ≤ (A.pts.getD m (0, false)).1) := HPPOS0.out
              clear HTPOS0 HPPOS0
              obtain ⟨trb, tro, rfl, _, _⟩ := HTR.out.cell (i := 0) htl0
              clear htl0
              have k0 := cell_row (j := 0) K2.out rfl
              have b0 := cell_row (j := 0) P2.out.b rfl
              have n3 := cell_row (j := 3) P2.out.n rfl
              have lk := heap_lt K2.out; have lb := heap_lt P2.out.b; have ln := heap_lt P2.out.n
              have HLK : Hid (goodB f now.lo q j (T.rts.getD j rt0) = (((A.sig == (q : Int)) && now.lo.testBit j) && ((A.tr.all fun x => bt f.cl x) && (A.pts.all fun p => (bt f.no p.1 != p.2) && (bt f.re p.1 == p.2))))) := by rw [← HA.out]; rfl
              have HB := Lib.hid (HSB.out now.lo j w2 HNO.out.lo)
              generalize now.lo.testBit j = r at *
              cases ts : (A.sig == (q : Int))
              case false =>
                rw [ts, Bool.false_and] at HLK
                go_upto_region 19 with fail
                clear k0 b0 n3 lk lb ln
                as_aux_lemma =>
                  have k1 := cell_row (j := 1) K2.out rfl
                  have lk := heap_lt K2.out
                  go_wp2_with fail
                  clear k1 lk
                  go_loopw [114, 16] (fun i g wr => ∃ m : Nat, m ≤ A.tr.length ∧ i = .int .i64 m ∧ g = .bool false ∧ wr.heap[ab]? = some (.cells #[.int .i64 A.sig, .slice (some ⟨trb, tro, none⟩) A.tr.length tc, .slice pa A.pts.length pc, .int .i64 A.app, .slice ca A.con.length cc, .int .u16 (A.hold : Int)] 46 (0, 0)) ∧ SW w wr tb fb wb nb bb #[.int .i64 T.tracks, .slice va T.pts.length vc, .int .i64 (s : Int), .slice (some ⟨rb, ro, none⟩) T.rts.length c] #[.int .u32 (f.cl : Int), .int .u32 (f.no : Int), .int .u32 (f.re : Int), .int .u32 (f.ak : Int), .int .u32 (f.ca : Int), .int .u32 (f.rq : Int)] #[.int .u32 (was.pr : Int), .int .u32 (was.no : Int), .int .u32 (was.re : Int), .int .u32 (was.lo : Int)] #[.int .u32 (now.pr : Int), .int .u32 (now.no : Int), .int .u32 (now.re : Int), .int .u32 (now.lo : Int)]) (fun i _ _ => A.tr.length - (intOf i).toNat)
                  case atStart => exact ⟨0, Nat.zero_le _, rfl, rfl, K2.out, P2.out⟩
                  case round =>
                    clear P2 K2
                    obtain ⟨m, hm, rfl, rfl, hk, hp⟩ := hrel
                    have P4 := Lib.hid hp; have K4 := Lib.hid hk
                    clear hp hk
                    by_cases hlm : m < A.tr.length
                    case pos =>
                      obtain ⟨_, _, e, hb2, x0⟩ := (HTR.out.below P4.out.bel).cell hlm
                      cases e
                      go_wp2_with fail
                      clear x0 hb2
                      go_roundw
                      case rel => exact ⟨m + 1, by omega, by go_num, rfl, K4.out, P4.out⟩
                      case measure => simp [intOf]; omega
                    case neg =>
                    obtain rfl : m = A.tr.length := by omega
                    have k2 := cell_row (j := 2) K4.out rfl
                    have lk := heap_lt K4.out
                    go_wp2_with fail
                    clear k2 lk
                    go_loopw [130, 16] (fun i g' wr => ∃ m : Nat, m ≤ A.pts.length ∧ i = .int .i64 m ∧ g' = .bool false ∧ wr.heap[ab]? = some (.cells #[.int .i64 A.sig, .slice (some ⟨trb, tro, none⟩) A.tr.length tc, .slice pa A.pts.length pc, .int .i64 A.app, .slice ca A.con.length cc, .int .u16 (A.hold : Int)] 46 (0, 0)) ∧ SW w wr tb fb wb nb bb #[.int .i64 T.tracks, .slice va T.pts.length vc, .int .i64 (s : Int), .slice (some ⟨rb, ro, none⟩) T.rts.length c] #[.int .u32 (f.cl : Int), .int .u32 (f.no : Int), .int .u32 (f.re : Int), .int .u32 (f.ak : Int), .int .u32 (f.ca : Int), .int .u32 (f.rq : Int)] #[.int .u32 (was.pr : Int), .int .u32 (was.no : Int), .int .u32 (was.re : Int), .int .u32 (was.lo : Int)] #[.int .u32 (now.pr : Int), .int .u32 (now.no : Int), .int .u32 (now.re : Int), .int .u32 (now.lo : Int)]) (fun i _ _ => A.pts.length - (intOf i).toNat)
                    case atStart => exact ⟨0, Nat.zero_le _, rfl, rfl, K4.out, P4.out⟩
                    case round =>
                      clear P4 K4
                      obtain ⟨m, hm, rfl, rfl, hk, hp⟩ := hrel
                      have P4 := Lib.hid hp; have K4 := Lib.hid hk
                      clear hp hk
                      by_cases hlm : m < A.pts.length
                      case pos =>
                        obtain ⟨pb, po, rfl, hpb, x0, x1⟩ := (HPT.out.below P4.out.bel).cell hlm
                        generalize A.pts.getD m (0, false) = pp at *
                        obtain ⟨y, z⟩ := pp
                        simp only at x0 x1
                        obtain ⟨w5, hw5⟩ : ∃ W, W = wr.alloc (.cells #[.int .i64 y, .bool z] 67) := ⟨_, rfl⟩
                        have B5 : Hid (Below wr.heap.size wr w5) := by rw [hw5]; exact tb_alloc_below _ _
                        have P5 := Lib.hid (P4.out.below B5.out)
                        have KR5 := Lib.hid (tb_kept K4.out B5.out)
                        have HW5 := Lib.hid hw5
                        clear hw5
                        go_upto_region 27 with fail
                        rw [← HW5.out]
                        clear x0 x1 hpb HW5 B5
                        go_quiet (fail)
                        have P6 := Lib.hid (P5.out.below (W_drewN _ nq))
                        have K6 := Lib.hid (tb_kept KR5.out (W_drewN _ nq))
                        generalize w5.drewN nq = w6 at *
                        go_wp2_with fail
                        go_roundw
                        case rel => exact ⟨m + 1, by omega, by go_num, rfl, K6.out, P6.out⟩
                        case measure => simp [intOf]; omega
                      case neg =>
                      obtain rfl : m = A.pts.length := by omega
                      have HFN : Hid (okB f now.lo T q (j + 1) = okB f now.lo T q j) := by
                        show _ = _
                        rw [okB_succ, HLK.out, Bool.false_and, Bool.or_false]
                      generalize okB f now.lo T q j = o at *
                      cases o
                      case true =>
                        go_wp2_with fail
                        go_roundw
                        case rel => exact ⟨j + 1, by have := HJ.out; omega, by go_num, congrArg Value.bool HFN.out.symm, P4.out⟩
                        case measure => have := HJ.out; simp [intOf]; omega
                      case false =>
                        go_wp2_with fail
                        go_roundw
                        case rel => exact ⟨j + 1, by have := HJ.out; omega, by go_num, congrArg Value.bool HFN.out.symm, P4.out⟩
                        case measure => have := HJ.out; simp [intOf]; omega
              case true =>
                rw [ts, Bool.true_and] at HLK
                go_wp2_with fail
                refine HB.out.mono ?_
                rintro e w3 ⟨rfl, hb⟩
                have P3 := Lib.hid (P2.out.below hb)
                have K3 := Lib.hid (tb_kept K2.out hb)
                clear hb k0 b0 n3 lk lb ln
                go_upto_region 19 with fail
                as_aux_lemma =>
                  have k1 := cell_row (j := 1) K3.out rfl
                  have lk := heap_lt K3.out
                  go_wp2_with fail
                  clear k1 lk
                  go_loopw [114, 16] (fun i g wr => ∃ m : Nat, m ≤ A.tr.length ∧ i = .int .i64 m ∧ g = .bool (r && (A.tr.take m).all (fun x => bt f.cl x)) ∧ wr.heap[ab]? = some (.cells #[.int .i64 A.sig, .slice (some ⟨trb, tro, none⟩) A.tr.length tc, .slice pa A.pts.length pc, .int .i64 A.app, .slice ca A.con.length cc, .int .u16 (A.hold : Int)] 46 (0, 0)) ∧ SW w wr tb fb wb nb bb #[.int .i64 T.tracks, .slice va T.pts.length vc, .int .i64 (s : Int), .slice (some ⟨rb, ro, none⟩) T.rts.length c] #[.int .u32 (f.cl : Int), .int .u32 (f.no : Int), .int .u32 (f.re : Int), .int .u32 (f.ak : Int), .int .u32 (f.ca : Int), .int .u32 (f.rq : Int)] #[.int .u32 (was.pr : Int), .int .u32 (was.no : Int), .int .u32 (was.re : Int), .int .u32 (was.lo : Int)] #[.int .u32 (now.pr : Int), .int .u32 (now.no : Int), .int .u32 (now.re : Int), .int .u32 (now.lo : Int)]) (fun i _ _ => A.tr.length - (intOf i).toNat)
                  case atStart => exact ⟨0, Nat.zero_le _, rfl, by simp, K3.out, P3.out⟩
                  case round =>
                    clear P3 K3
                    obtain ⟨m, hm, rfl, rfl, hk, hp⟩ := hrel
                    have P4 := Lib.hid hp; have K4 := Lib.hid hk
                    clear hp hk
                    obtain ⟨g, hg⟩ : ∃ g, g = (r && (A.tr.take m).all (fun x => bt f.cl x)) := ⟨_, rfl⟩
                    rw [← hg]
                    have HGD := Lib.hid hg
                    clear hg
                    by_cases hlm : m < A.tr.length
                    case pos =>
                      obtain ⟨_, _, e, hb2, x0⟩ := (HTR.out.below P4.out.bel).cell hlm
                      cases e
                      obtain ⟨y, hy⟩ := Int.eq_ofNat_of_zero_le (HTPOS.out m hlm)
                      rw [hy] at x0
                      have HST : Hid ((r && (A.tr.take (m + 1)).all (fun x => bt f.cl x)) = (g && f.cl.testBit y)) := by show _ = _; rw [all_take (d := 0) hlm, hy, ← Bool.and_assoc, ← HGD.out]; rfl
                      have HB := Lib.hid (HSB.out f.cl y wr HF.out.cl)
                      have HY := Lib.hid hy
                      generalize f.cl.testBit y = r2 at *
                      clear hy
                      have f0 := cell_row (j := 0) P4.out.f rfl
                      have b0 := cell_row (j := 0) P4.out.b rfl
                      have lf := heap_lt P4.out.f; have lb := heap_lt P4.out.b
                      cases g
                      case false =>
                        go_wp2_with fail
                        clear f0 b0 lf lb x0 hb2
                        go_roundw
                        case rel => exact ⟨m + 1, by omega, by go_num, congrArg Value.bool HST.out.symm, K4.out, P4.out⟩
                        case measure => simp [intOf]; omega
                      case true =>
                        go_wp2_with fail
                        refine HB.out.mono ?_
                        rintro e w8 ⟨rfl, hb⟩
                        have P8 := Lib.hid (P4.out.below hb)
                        have K8 := Lib.hid (tb_kept K4.out hb)
                        clear hb f0 b0 lf lb x0 hb2
                        go_wp2_with fail
                        go_roundw
                        case rel => exact ⟨m + 1, by omega, by go_num, congrArg Value.bool HST.out.symm, K8.out, P8.out⟩
                        case measure => simp [intOf]; omega
                    case neg =>
                    obtain rfl : m = A.tr.length := by omega
                    rw [List.take_length] at HGD
                    have k2 := cell_row (j := 2) K4.out rfl
                    have lk := heap_lt K4.out
                    go_wp2_with fail
                    clear k2 lk
                    go_loopw [130, 16] (fun i g' wr => ∃ m : Nat, m ≤ A.pts.length ∧ i = .int .i64 m ∧ g' = .bool (g && (A.pts.take m).all (fun p => (bt f.no p.1 != p.2) && (bt f.re p.1 == p.2))) ∧ wr.heap[ab]? = some (.cells #[.int .i64 A.sig, .slice (some ⟨trb, tro, none⟩) A.tr.length tc, .slice pa A.pts.length pc, .int .i64 A.app, .slice ca A.con.length cc, .int .u16 (A.hold : Int)] 46 (0, 0)) ∧ SW w wr tb fb wb nb bb #[.int .i64 T.tracks, .slice va T.pts.length vc, .int .i64 (s : Int), .slice (some ⟨rb, ro, none⟩) T.rts.length c] #[.int .u32 (f.cl : Int), .int .u32 (f.no : Int), .int .u32 (f.re : Int), .int .u32 (f.ak : Int), .int .u32 (f.ca : Int), .int .u32 (f.rq : Int)] #[.int .u32 (was.pr : Int), .int .u32 (was.no : Int), .int .u32 (was.re : Int), .int .u32 (was.lo : Int)] #[.int .u32 (now.pr : Int), .int .u32 (now.no : Int), .int .u32 (now.re : Int), .int .u32 (now.lo : Int)]) (fun i _ _ => A.pts.length - (intOf i).toNat)
                    case atStart => exact ⟨0, Nat.zero_le _, rfl, by simp, K4.out, P4.out⟩
                    case round =>
                      clear P4 K4
                      obtain ⟨m, hm, rfl, rfl, hk, hp⟩ := hrel
                      have P4 := Lib.hid hp; have K4 := Lib.hid hk
                      clear hp hk
                      obtain ⟨g', hg⟩ : ∃ g', g' = (g && (A.pts.take m).all (fun p => (bt f.no p.1 != p.2) && (bt f.re p.1 == p.2))) := ⟨_, rfl⟩
                      rw [← hg]
                      have HGD2 := Lib.hid hg
                      clear hg
                      by_cases hlm : m < A.pts.length
                      case pos =>
                        obtain ⟨pb, po, rfl, hpb, x0, x1⟩ := (HPT.out.below P4.out.bel).cell hlm
                        have hy0 := HPPOS.out m hlm
                        have HST : Hid ((g && (A.pts.take (m + 1)).all (fun p => (bt f.no p.1 != p.2) && (bt f.re p.1 == p.2))) = (g' && ((bt f.no (A.pts.getD m (0, false)).1 != (A.pts.getD m (0, false)).2) && (bt f.re (A.pts.getD m (0, false)).1 == (A.pts.getD m (0, false)).2)))) := by show _ = _; rw [all_take (d := (0, false)) hlm, ← Bool.and_assoc, ← HGD2.out]
                        generalize A.pts.getD m (0, false) = pp at *
                        obtain ⟨y, z⟩ := pp
                        simp only at x0 x1 hy0 HST
                        obtain ⟨y, rfl⟩ := Int.eq_ofNat_of_zero_le hy0
                        have HST : Hid ((g && (A.pts.take (m + 1)).all (fun p => (bt f.no p.1 != p.2) && (bt f.re p.1 == p.2))) = (g' && ((f.no.testBit y != z) && (f.re.testBit y == z)))) := HST.out
                        obtain ⟨w5, hw5⟩ : ∃ W, W = wr.alloc (.cells #[.int .i64 (y : Int), .bool z] 67) := ⟨_, rfl⟩
                        have B5 : Hid (Below wr.heap.size wr w5) := by rw [hw5]; exact tb_alloc_below _ _
                        have P5 := Lib.hid (P4.out.below B5.out)
                        have KR5 := Lib.hid (tb_kept K4.out B5.out)
                        have K5 : Hid (w5.heap[wr.heap.size]? = some (.cells #[.int .i64 (y : Int), .bool z] 67 (0, 0))) := by rw [hw5]; exact heap_alloc_new _ _
                        have HW5 := Lib.hid hw5
                        have HB1 : Hid (∀ n, Calls Try.prog 34 #[.int .u32 (f.no : Int), .int .i64 (y : Int)] (w5.drewN n) fun e w' => e = .returned (.bool (f.no.testBit y)) ∧ ∃ m, w' = w5.drewN m) := fun n => Calls.quiet_of_same (sbit_s f.no y _ HF.out.no)
                        have HB2 : Hid (∀ n, Calls Try.prog 34 #[.int .u32 (f.re : Int), .int .i64 (y : Int)] (w5.drewN n) fun e w' => e = .returned (.bool (f.re.testBit y)) ∧ ∃ m, w' = w5.drewN m) := fun n => Calls.quiet_of_same (sbit_s f.re y _ HF.out.re)
                        generalize f.no.testBit y = e1 at *
                        generalize f.re.testBit y = e2 at *
                        clear hw5 hy0
                        go_upto_region 27 with fail
                        rw [← HW5.out]
                        clear x0 x1 hpb HW5
                        obtain ⟨xb, hxb⟩ : ∃ ab, ab = wr.heap.size := ⟨_, rfl⟩
                        rw [← hxb] at K5 ⊢
                        clear hxb B5
                        cases g'
                        case false =>
                          have yf1 := cell_row (j := 1) P5.out.f rfl; have yf2 := cell_row (j := 2) P5.out.f rfl
                          have yb := cell_row (j := 0) P5.out.b rfl
                          have yp0 := cell_row (j := 0) K5.out rfl; have yp1 := cell_row (j := 1) K5.out rfl
                          have lf := heap_lt P5.out.f; have lb := heap_lt P5.out.b; have lp := heap_lt K5.out
                          go_quiet ((go_at_call 34; first | (with_reducible exact HB1.out _) | (with_reducible exact HB2.out _)))
                          have P6 := Lib.hid (P5.out.below (W_drewN _ nq))
                          have K6 := Lib.hid (tb_kept KR5.out (W_drewN _ nq))
                          generalize w5.drewN nq = w6 at *
                          clear yf1 yf2 yb yp0 yp1 lf lb lp K5
                          go_wp2_with fail
                          go_roundw
                          case rel => exact ⟨m + 1, by omega, by go_num, congrArg Value.bool HST.out.symm, K6.out, P6.out⟩
                          case measure => simp [intOf]; omega
                        case true =>
                          cases z
                          case false =>
                            cases e1
                            case false =>
                              have yf1 := cell_row (j := 1) P5.out.f rfl; have yf2 := cell_row (j := 2) P5.out.f rfl
                              have yb := cell_row (j := 0) P5.out.b rfl
                              have yp0 := cell_row (j := 0) K5.out rfl; have yp1 := cell_row (j := 1) K5.out rfl
                              have lf := heap_lt P5.out.f; have lb := heap_lt P5.out.b; have lp := heap_lt K5.out
                              go_quiet ((go_at_call 34; first | (with_reducible exact HB1.out _) | (with_reducible exact HB2.out _)))
                              have P6 := Lib.hid (P5.out.below (W_drewN _ nq))
                              have K6 := Lib.hid (tb_kept KR5.out (W_drewN _ nq))
                              generalize w5.drewN nq = w6 at *
                              clear yf1 yf2 yb yp0 yp1 lf lb lp K5
                              go_wp2_with fail
                              go_roundw
                              case rel => exact ⟨m + 1, by omega, by go_num, congrArg Value.bool HST.out.symm, K6.out, P6.out⟩
                              case measure => simp [intOf]; omega
                            case true =>
                              cases e2
                              case false =>
                                have yf1 := cell_row (j := 1) P5.out.f rfl; have yf2 := cell_row (j := 2) P5.out.f rfl
                                have yb := cell_row (j := 0) P5.out.b rfl
                                have yp0 := cell_row (j := 0) K5.out rfl; have yp1 := cell_row (j := 1) K5.out rfl
                                have lf := heap_lt P5.out.f; have lb := heap_lt P5.out.b; have lp := heap_lt K5.out
                                go_quiet ((go_at_call 34; first | (with_reducible exact HB1.out _) | (with_reducible exact HB2.out _)))
                                have P6 := Lib.hid (P5.out.below (W_drewN _ nq))
                                have K6 := Lib.hid (tb_kept KR5.out (W_drewN _ nq))
                                generalize w5.drewN nq = w6 at *
                                clear yf1 yf2 yb yp0 yp1 lf lb lp K5
                                go_wp2_with fail
                                go_roundw
                                case rel => exact ⟨m + 1, by omega, by go_num, congrArg Value.bool HST.out.symm, K6.out, P6.out⟩
                                case measure => simp [intOf]; omega
                              case true =>
                                have yf1 := cell_row (j := 1) P5.out.f rfl; have yf2 := cell_row (j := 2) P5.out.f rfl
                                have yb := cell_row (j := 0) P5.out.b rfl
                                have yp0 := cell_row (j := 0) K5.out rfl; have yp1 := cell_row (j := 1) K5.out rfl
                                have lf := heap_lt P5.out.f; have lb := heap_lt P5.out.b; have lp := heap_lt K5.out
                                go_quiet ((go_at_call 34; first | (with_reducible exact HB1.out _) | (with_reducible exact HB2.out _)))
                                have P6 := Lib.hid (P5.out.below (W_drewN _ nq))
                                have K6 := Lib.hid (tb_kept KR5.out (W_drewN _ nq))
                                generalize w5.drewN nq = w6 at *
                                clear yf1 yf2 yb yp0 yp1 lf lb lp K5
                                go_wp2_with fail
                                go_roundw
                                case rel => exact ⟨m + 1, by omega, by go_num, congrArg Value.bool HST.out.symm, K6.out, P6.out⟩
                                case measure => simp [intOf]; omega
                          case true =>
                            cases e1
                            case true =>
                              have yf1 := cell_row (j := 1) P5.out.f rfl; have yf2 := cell_row (j := 2) P5.out.f rfl
                              have yb := cell_row (j := 0) P5.out.b rfl
                              have yp0 := cell_row (j := 0) K5.out rfl; have yp1 := cell_row (j := 1) K5.out rfl
                              have lf := heap_lt P5.out.f; have lb := heap_lt P5.out.b; have lp := heap_lt K5.out
                              go_quiet ((go_at_call 34; first | (with_reducible exact HB1.out _) | (with_reducible exact HB2.out _)))
                              have P6 := Lib.hid (P5.out.below (W_drewN _ nq))
                              have K6 := Lib.hid (tb_kept KR5.out (W_drewN _ nq))
                              generalize w5.drewN nq = w6 at *
                              clear yf1 yf2 yb yp0 yp1 lf lb lp K5
                              go_wp2_with fail
                              go_roundw
                              case rel => exact ⟨m + 1, by omega, by go_num, congrArg Value.bool HST.out.symm, K6.out, P6.out⟩
                              case measure => simp [intOf]; omega
                            case false =>
                              cases e2
                              case true =>
                                have yf1 := cell_row (j := 1) P5.out.f rfl; have yf2 := cell_row (j := 2) P5.out.f rfl
                                have yb := cell_row (j := 0) P5.out.b rfl
                                have yp0 := cell_row (j := 0) K5.out rfl; have yp1 := cell_row (j := 1) K5.out rfl
                                have lf := heap_lt P5.out.f; have lb := heap_lt P5.out.b; have lp := heap_lt K5.out
                                go_quiet ((go_at_call 34; first | (with_reducible exact HB1.out _) | (with_reducible exact HB2.out _)))
                                have P6 := Lib.hid (P5.out.below (W_drewN _ nq))
                                have K6 := Lib.hid (tb_kept KR5.out (W_drewN _ nq))
                                generalize w5.drewN nq = w6 at *
                                clear yf1 yf2 yb yp0 yp1 lf lb lp K5
                                go_wp2_with fail
                                go_roundw
                                case rel => exact ⟨m + 1, by omega, by go_num, congrArg Value.bool HST.out.symm, K6.out, P6.out⟩
                                case measure => simp [intOf]; omega
                              case false =>
                                have yf1 := cell_row (j := 1) P5.out.f rfl; have yf2 := cell_row (j := 2) P5.out.f rfl
                                have yb := cell_row (j := 0) P5.out.b rfl
                                have yp0 := cell_row (j := 0) K5.out rfl; have yp1 := cell_row (j := 1) K5.out rfl
                                have lf := heap_lt P5.out.f; have lb := heap_lt P5.out.b; have lp := heap_lt K5.out
                                go_quiet ((go_at_call 34; first | (with_reducible exact HB1.out _) | (with_reducible exact HB2.out _)))
                                have P6 := Lib.hid (P5.out.below (W_drewN _ nq))
                                have K6 := Lib.hid (tb_kept KR5.out (W_drewN _ nq))
                                generalize w5.drewN nq = w6 at *
                                clear yf1 yf2 yb yp0 yp1 lf lb lp K5
                                go_wp2_with fail
                                go_roundw
                                case rel => exact ⟨m + 1, by omega, by go_num, congrArg Value.bool HST.out.symm, K6.out, P6.out⟩
                                case measure => simp [intOf]; omega
                      case neg =>
                      obtain rfl : m = A.pts.length := by omega
                      rw [List.take_length] at HGD2
                      have HFN : Hid (okB f now.lo T q (j + 1) = (okB f now.lo T q j || g')) := by
                        show _ = _
                        rw [okB_succ, HLK.out, HGD2.out, HGD.out, ← Bool.and_assoc]
                      generalize okB f now.lo T q j = o at *
                      cases o
                      case true =>
                        go_wp2_with fail
                        go_roundw
                        case rel => exact ⟨j + 1, by have := HJ.out; omega, by go_num, congrArg Value.bool HFN.out.symm, P4.out⟩
                        case measure => have := HJ.out; simp [intOf]; omega
                      case false =>
                        go_wp2_with fail
                        go_roundw
                        case rel => exact ⟨j + 1, by have := HJ.out; omega, by go_num, congrArg Value.bool HFN.out.symm, P4.out⟩
                        case measure => have := HJ.out; simp [intOf]; omega
            case neg =>
              obtain rfl : j = T.rts.length := by omega
              rw [HEX.out]
              go_wp2_with fail
              go_roundw
              case rel => exact ⟨q + 1, by omega, by go_num, P1.out⟩
              case measure => simp [intOf]; omega
      case neg =>
      obtain rfl : q = s := by omega
      have t1 := cell_row (j := 1) P1.out.t rfl
      have lt := heap_lt P1.out.t
      go_wp2_with fail
      clear t1 lt
      go_loopw [169] (fun i wr => ∃ k : Nat, k ≤ T.pts.length ∧ i = .int .i64 k ∧ SW w wr tb fb wb nb bb #[.int .i64 T.tracks, .slice va T.pts.length vc, .int .i64 (q : Int), .slice (some ⟨rb, ro, none⟩) T.rts.length c] #[.int .u32 (f.cl : Int), .int .u32 (f.no : Int), .int .u32 (f.re : Int), .int .u32 (f.ak : Int), .int .u32 (f.ca : Int), .int .u32 (f.rq : Int)] #[.int .u32 (was.pr : Int), .int .u32 (was.no : Int), .int .u32 (was.re : Int), .int .u32 (was.lo : Int)] #[.int .u32 (now.pr : Int), .int .u32 (now.no : Int), .int .u32 (now.re : Int), .int .u32 (now.lo : Int)]) (fun i _ => T.pts.length - (intOf i).toNat)
      case atStart => exact ⟨0, Nat.zero_le _, rfl, P1.out⟩
      case round =>
        clear P1
        obtain ⟨p, hp, rfl, hp'⟩ := hrel
        have P1 := Lib.hid hp'
        clear hp'
        by_cases hlp : p < T.pts.length
        case pos =>
          obtain ⟨pvb, pvo, rfl, hpvb, x0⟩ := (HP.out.below P1.out.bel).cell hlp
          obtain ⟨x, hx⟩ := Int.eq_ofNat_of_zero_le (HTI.out.pt p hlp).1
          rw [hx] at x0
          have HX := Lib.hid hx
          have HC4 := Lib.hid (HS.out.c4 p hlp)
          obtain ⟨w2, hw2⟩ : ∃ W, W = wr.alloc (.cells #[.int .i64 (p : Int)] 3) := ⟨_, rfl⟩
          have B2 : Hid (Below wr.heap.size wr w2) := by rw [hw2]; exact tb_alloc_below _ _
          have P2 := Lib.hid (P1.out.below B2.out)
          have K2 : Hid (w2.heap[wr.heap.size]? = some (.cells #[.int .i64 (p : Int)] 3 (0, 0))) := by rw [hw2]; exact heap_alloc_new _ _
          have HW2 := Lib.hid hw2
          clear hw2 hx
          go_upto_region 37 with fail
          rw [← HW2.out]
          clear x0 hpvb HW2
          obtain ⟨pb, hpb⟩ : ∃ ab, ab = wr.heap.size := ⟨_, rfl⟩
          rw [← hpb] at K2 ⊢
          clear hpb B2
          have HB1 : Hid (∀ n, Calls Try.prog 34 #[.int .u32 (was.no : Int), .int .i64 (p : Int)] (w2.drewN n) fun e w' => e = .returned (.bool (was.no.testBit p)) ∧ ∃ m, w' = w2.drewN m) := fun n => Calls.quiet_of_same (sbit_s was.no p _ HWA.out.no)
          have HB2 : Hid (∀ n, Calls Try.prog 34 #[.int .u32 (now.no : Int), .int .i64 (p : Int)] (w2.drewN n) fun e w' => e = .returned (.bool (now.no.testBit p)) ∧ ∃ m, w' = w2.drewN m) := fun n => Calls.quiet_of_same (sbit_s now.no p _ HNO.out.no)
          have HB3 : Hid (∀ n, Calls Try.prog 34 #[.int .u32 (was.re : Int), .int .i64 (p : Int)] (w2.drewN n) fun e w' => e = .returned (.bool (was.re.testBit p)) ∧ ∃ m, w' = w2.drewN m) := fun n => Calls.quiet_of_same (sbit_s was.re p _ HWA.out.re)
          have HB4 : Hid (∀ n, Calls Try.prog 34 #[.int .u32 (now.re : Int), .int .i64 (p : Int)] (w2.drewN n) fun e w' => e = .returned (.bool (now.re.testBit p)) ∧ ∃ m, w' = w2.drewN m) := fun n => Calls.quiet_of_same (sbit_s now.re p _ HNO.out.re)
          have a1 := cell_row (j := 1) P2.out.a rfl; have a2 := cell_row (j := 2) P2.out.a rfl
          have n1 := cell_row (j := 1) P2.out.n rfl; have n2 := cell_row (j := 2) P2.out.n rfl
          have b0 := cell_row (j := 0) P2.out.b rfl; have k0 := cell_row (j := 0) K2.out rfl
          have la := heap_lt P2.out.a; have ln := heap_lt P2.out.n; have lb := heap_lt P2.out.b; have lk := heap_lt K2.out
          have HLP := Lib.hid hlp
          generalize was.no.testBit p = e1 at *
          generalize now.no.testBit p = e2 at *
          generalize was.re.testBit p = e3 at *
          generalize now.re.testBit p = e4 at *
          by_cases h12 : e2 = e1
          case neg =>
            obtain rfl : e2 = !e1 := by cases e1 <;> cases e2 <;> simp at h12 ⊢
            have HC5 := Lib.hid (HC4.out (by cases e1 <;> rfl))
            clear h12
            go_quiet ((go_at_call 34; first | (with_reducible exact HB1.out _) | (with_reducible exact HB2.out _) | (with_reducible exact HB3.out _) | (with_reducible exact HB4.out _)))
            have P3 := Lib.hid (P2.out.below (W_drewN _ nq))
            have K3 := Lib.hid (tb_kept K2.out (W_drewN _ nq))
            generalize w2.drewN nq = w3 at *
            clear a1 a2 n1 n2 b0 k0 la ln lb lk HB1 HB2 HB3 HB4 P2 K2
            as_aux_lemma =>
              have f0 := cell_row (j := 0) P3.out.f rfl
              have b0 := cell_row (j := 0) P3.out.b rfl
              have lf := heap_lt P3.out.f; have lb := heap_lt P3.out.b
              have HCL := Lib.hid (HSB.out f.cl x w3 HF.out.cl)
              rw [show f.cl.testBit x = true by have := HC5.out.1; rw [HX.out] at this; exact this] at HCL
              go_wp2_with fail
              refine HCL.out.mono ?_
              rintro e w4 ⟨rfl, hb⟩
              have P4 := Lib.hid (P3.out.below hb)
              have K4 := Lib.hid (tb_kept K3.out hb)
              clear hb f0 b0 lf lb HCL
              have t3 := cell_row (j := 3) P4.out.t rfl
              have lt := heap_lt P4.out.t
              go_wp2_with fail
              clear t3 lt
              go_loopw [207] (fun i wr => ∃ n : Nat, n ≤ T.rts.length ∧ i = .int .i64 n ∧ wr.heap[pb]? = some (.cells #[.int .i64 (p : Int)] 3 (0, 0)) ∧ SW w wr tb fb wb nb bb #[.int .i64 T.tracks, .slice (some ⟨pvb, pvo, none⟩) T.pts.length vc, .int .i64 (q : Int), .slice (some ⟨rb, ro, none⟩) T.rts.length c] #[.int .u32 (f.cl : Int), .int .u32 (f.no : Int), .int .u32 (f.re : Int), .int .u32 (f.ak : Int), .int .u32 (f.ca : Int), .int .u32 (f.rq : Int)] #[.int .u32 (was.pr : Int), .int .u32 (was.no : Int), .int .u32 (was.re : Int), .int .u32 (was.lo : Int)] #[.int .u32 (now.pr : Int), .int .u32 (now.no : Int), .int .u32 (now.re : Int), .int .u32 (now.lo : Int)]) (fun i _ => T.rts.length - (intOf i).toNat)
              case atStart => exact ⟨0, Nat.zero_le _, rfl, K4.out, P4.out⟩
              case round =>
                clear P4 K4 P3 K3
                obtain ⟨n, hn, rfl, hk, hp'⟩ := hrel
                have P5 := Lib.hid hp'; have K5 := Lib.hid hk
                clear hp' hk
                by_cases hln : n < T.rts.length
                case pos =>
                  have HLN := Lib.hid hln
                  obtain ⟨rb', ro', C', e, hrb', hrc, hrr⟩ := HR.out.cells (i := n) hln
                  cases e
                  have x0 := (P5.out.bel.cell hrb').trans (hrc 0 (by omega)); have x1 := (P5.out.bel.cell hrb').trans (hrc 1 (by omega)); have x2 := (P5.out.bel.cell hrb').trans (hrc 2 (by omega)); have x3 := (P5.out.bel.cell hrb').trans (hrc 3 (by omega)); have x4 := (P5.out.bel.cell hrb').trans (hrc 4 (by omega)); have x5 := (P5.out.bel.cell hrb').trans (hrc 5 (by omega))
                  rw [Nat.add_zero] at x0
                  obtain ⟨A, hA⟩ : ∃ A, A = T.rts.getD n rt0 := ⟨_, rfl⟩
                  rw [← hA] at hrr
                  obtain ⟨⟨ta, tc, ht, ht1, ht2, _⟩, _⟩ := id hrr.tr
                  obtain ⟨⟨pa, pc, hp, hp1, hp2, _⟩, _⟩ := id hrr.pts
                  obtain ⟨⟨ca, cc, hcn, hc1, hc2, _⟩, _⟩ := id hrr.con
                  rw [hrr.sig] at x0; rw [ht] at x1; rw [hp] at x2; rw [hrr.app] at x3; rw [hcn] at x4; rw [hrr.hold] at x5
                  have HTR : Hid (IntsAt w (.slice ta A.tr.length tc) A.tr) := ht ▸ hrr.tr
                  have HPT : Hid (PtsAt w (.slice pa A.pts.length pc) A.pts) := hp ▸ hrr.pts
                  have HCN : Hid (IntsAt w (.slice ca A.con.length cc) A.con) := hcn ▸ hrr.con
                  have HA := Lib.hid hA
                  obtain ⟨w6, hw7⟩ : ∃ W, W = wr.alloc (.cells #[.int .i64 A.sig, .slice ta A.tr.length tc, .slice pa A.pts.length pc, .int .i64 A.app, .slice ca A.con.length cc, .int .u16 (A.hold : Int)] 46) := ⟨_, rfl⟩
                  have BA7 : Hid (Below wr.heap.size wr w6) := by rw [hw7]; exact tb_alloc_below _ _
                  have P6 := Lib.hid (P5.out.below BA7.out)
                  have K6 : Hid (w6.heap[wr.heap.size]? = some (.cells #[.int .i64 A.sig, .slice ta A.tr.length tc, .slice pa A.pts.length pc, .int .i64 A.app, .slice ca A.con.length cc, .int .u16 (A.hold : Int)] 46 (0, 0))) := by rw [hw7]; exact heap_alloc_new _ _
                  have HW7 := Lib.hid hw7
                  have lr : rb < wr.heap.size := Nat.lt_of_lt_of_le HRB.out P5.out.bel.size
                  unfold maxLen at ht2 hp2 hc2
                  clear hrb' hrc hrr hA ht hp hcn hw7
                  go_upto_region 43 with fail
                  rw [← HW7.out]
                  clear x0 x1 x2 x3 x4 x5 lr HW7
                  obtain ⟨ab, hab⟩ : ∃ ab, ab = wr.heap.size := ⟨_, rfl⟩
                  rw [← hab] at K6 ⊢
                  have BA6 := BA7
                  clear hab BA7
                  have KP6 : Hid (w6.heap[pb]? = some (.cells #[.int .i64 (p : Int)] 3 (0, 0))) := tb_kept K5.out BA6.out
                  have HND0 : Hid (was.lo.testBit n = true → now.lo.testBit n = true → (hasI A.tr (x : Int) || (A.pts.any fun y => y.1 == (p : Int))) = false) := by
                    show _ → _ → _ = _
                    intro h1 h2
                    have := HC5.out.2 n HLN.out h1 h2
                    rw [← HA.out] at this
                    unfold needsB at this
                    rw [HX.out] at this
                    exact this
                  have HCT := Lib.hid (contains_b _ _ (x : Int) w6 (HTR.out.below P6.out.bel))
                  have k1 := cell_row (j := 1) K6.out rfl
                  have lk := heap_lt K6.out
                  cases hh : hasI A.tr (x : Int)
                  case true =>
                    rw [hh] at HCT
                    have HND : Hid (was.lo.testBit n = true → now.lo.testBit n = true → true = false) := by have := HND0.out; rw [hh, Bool.true_or] at this; exact this
                    clear hh
                    go_wp2_with fail
                    refine HCT.out.mono ?_
                    rintro e w7 ⟨rfl, hb⟩
                    have P7 := Lib.hid (P6.out.below hb)
                    have KP7 := Lib.hid (tb_kept KP6.out hb)
                    clear hb k1 lk
                    go_upto_region 44 with fail
                    have b0 := cell_row (j := 0) P7.out.b rfl
                    have a3 := cell_row (j := 3) P7.out.a rfl
                    have n3 := cell_row (j := 3) P7.out.n rfl
                    have lb := heap_lt P7.out.b; have la := heap_lt P7.out.a; have ln := heap_lt P7.out.n
                    have HL1 := Lib.hid (HSB.out was.lo n w7 HWA.out.lo)
                    cases l1 : was.lo.testBit n
                    case false =>
                      rw [l1] at HL1
                      clear l1
                      go_wp2_with fail
                      refine HL1.out.mono ?_
                      rintro e v3 ⟨rfl, hb⟩
                      have PV := Lib.hid (P7.out.below hb)
                      have KV := Lib.hid (tb_kept KP7.out hb)
                      clear hb b0 a3 n3 lb la ln
                      go_wp2_with fail
                      go_roundw
                      case rel => exact ⟨n + 1, by have := HLN.out; omega, by go_num, KV.out, PV.out⟩
                      case measure => have := HLN.out; simp [intOf]; omega
                    case true =>
                      rw [l1] at HL1
                      go_wp2_with fail
                      refine HL1.out.mono ?_
                      rintro e v3 ⟨rfl, hb⟩
                      have PV := Lib.hid (P7.out.below hb)
                      have KV := Lib.hid (tb_kept KP7.out hb)
                      clear hb b0 a3 n3 lb la ln
                      have b0 := cell_row (j := 0) PV.out.b rfl
                      have n3 := cell_row (j := 3) PV.out.n rfl
                      have lb := heap_lt PV.out.b; have ln := heap_lt PV.out.n
                      have HL2 := Lib.hid (HSB.out now.lo n v3 HNO.out.lo)
                      cases l2 : now.lo.testBit n
                      case false =>
                        rw [l2] at HL2
                        clear l1 l2
                        go_wp2_with fail
                        refine HL2.out.mono ?_
                        rintro e v4 ⟨rfl, hb⟩
                        have PZ := Lib.hid (PV.out.below hb)
                        have KZ := Lib.hid (tb_kept KV.out hb)
                        clear hb b0 n3 lb ln
                        go_wp2_with fail
                        go_roundw
                        case rel => exact ⟨n + 1, by have := HLN.out; omega, by go_num, KZ.out, PZ.out⟩
                        case measure => have := HLN.out; simp [intOf]; omega
                      case true =>
                        have hD := HND.out l1 l2
                        rw [l2] at HL2
                        clear l1 l2
                        cases hD
                        all_goals
                          go_wp2_with fail
                          refine HL2.out.mono ?_
                          rintro e v4 ⟨rfl, hb⟩
                          have PZ := Lib.hid (PV.out.below hb)
                          have KZ := Lib.hid (tb_kept KV.out hb)
                          clear hb b0 n3 lb ln
                          go_wp2_with fail
                          go_roundw
                          case rel => exact ⟨n + 1, by have := HLN.out; omega, by go_num, KZ.out, PZ.out⟩
                          case measure => have := HLN.out; simp [intOf]; omega
                  case false =>
                    rw [hh] at HCT
                    have HND : Hid (was.lo.testBit n = true → now.lo.testBit n = true → (A.pts.any fun y => y.1 == (p : Int)) = false) := by have := HND0.out; rw [hh, Bool.false_or] at this; exact this
                    clear hh
                    go_wp2_with fail
                    refine HCT.out.mono ?_
                    rintro e w7 ⟨rfl, hb⟩
                    have P7 := Lib.hid (P6.out.below hb)
                    have K7 := Lib.hid (tb_kept K6.out hb)
                    have KP7 := Lib.hid (tb_kept KP6.out hb)
                    clear hb k1 lk
                    have k2 := cell_row (j := 2) K7.out rfl
                    have lk := heap_lt K7.out
                    have HQ : Hid (Calls Try.prog 36 #[.slice pa A.pts.length pc, .func (.func 37) #[] #[.pointer (some ⟨pb, 0, none⟩)]] w7 fun e w' => e = .returned (.bool (A.pts.any fun y => y.1 == (p : Int))) ∧ Below w7.heap.size w7 w') :=
                      containsF_pt _ A.pts _ _ (fun y => y.1 == (p : Int)) w7 (HPT.out.below P7.out.bel) (enters_of Try.func37 (by kernel_rfl) rfl)
                        (fun i hi W hW => safe3_any (A.pts.getD i (0, false)) p pb W (tb_kept KP7.out hW))
                    generalize (A.pts.any fun y => y.1 == (p : Int)) = d at *
                    go_wp2_with fail
                    refine HQ.out.mono ?_
                    rintro e w8 ⟨rfl, hb⟩
                    have P8 := Lib.hid (P7.out.below hb)
                    have KP8 := Lib.hid (tb_kept KP7.out hb)
                    clear hb k2 lk
                    go_upto_region 44 with fail
                    have b0 := cell_row (j := 0) P8.out.b rfl
                    have a3 := cell_row (j := 3) P8.out.a rfl
                    have n3 := cell_row (j := 3) P8.out.n rfl
                    have lb := heap_lt P8.out.b; have la := heap_lt P8.out.a; have ln := heap_lt P8.out.n
                    have HL1 := Lib.hid (HSB.out was.lo n w8 HWA.out.lo)
                    cases l1 : was.lo.testBit n
                    case false =>
                      rw [l1] at HL1
                      clear l1
                      go_wp2_with fail
                      refine HL1.out.mono ?_
                      rintro e v3 ⟨rfl, hb⟩
                      have PV := Lib.hid (P8.out.below hb)
                      have KV := Lib.hid (tb_kept KP8.out hb)
                      clear hb b0 a3 n3 lb la ln
                      go_wp2_with fail
                      go_roundw
                      case rel => exact ⟨n + 1, by have := HLN.out; omega, by go_num, KV.out, PV.out⟩
                      case measure => have := HLN.out; simp [intOf]; omega
                    case true =>
                      rw [l1] at HL1
                      go_wp2_with fail
                      refine HL1.out.mono ?_
                      rintro e v3 ⟨rfl, hb⟩
                      have PV := Lib.hid (P8.out.below hb)
                      have KV := Lib.hid (tb_kept KP8.out hb)
                      clear hb b0 a3 n3 lb la ln
                      have b0 := cell_row (j := 0) PV.out.b rfl
                      have n3 := cell_row (j := 3) PV.out.n rfl
                      have lb := heap_lt PV.out.b; have ln := heap_lt PV.out.n
                      have HL2 := Lib.hid (HSB.out now.lo n v3 HNO.out.lo)
                      cases l2 : now.lo.testBit n
                      case false =>
                        rw [l2] at HL2
                        clear l1 l2
                        go_wp2_with fail
                        refine HL2.out.mono ?_
                        rintro e v4 ⟨rfl, hb⟩
                        have PZ := Lib.hid (PV.out.below hb)
                        have KZ := Lib.hid (tb_kept KV.out hb)
                        clear hb b0 n3 lb ln
                        go_wp2_with fail
                        go_roundw
                        case rel => exact ⟨n + 1, by have := HLN.out; omega, by go_num, KZ.out, PZ.out⟩
                        case measure => have := HLN.out; simp [intOf]; omega
                      case true =>
                        have hD := HND.out l1 l2
                        rw [l2] at HL2
                        clear l1 l2
                        cases hD
                        all_goals
                          go_wp2_with fail
                          refine HL2.out.mono ?_
                          rintro e v4 ⟨rfl, hb⟩
                          have PZ := Lib.hid (PV.out.below hb)
                          have KZ := Lib.hid (tb_kept KV.out hb)
                          clear hb b0 n3 lb ln
                          go_wp2_with fail
                          go_roundw
                          case rel => exact ⟨n + 1, by have := HLN.out; omega, by go_num, KZ.out, PZ.out⟩
                          case measure => have := HLN.out; simp [intOf]; omega
                case neg =>
                obtain rfl : n = T.rts.length := by omega
                go_wp2_with fail
                go_roundw
                case rel => exact ⟨p + 1, by have := HLP.out; omega, by go_num, P5.out⟩
                case measure => have := HLP.out; simp [intOf]; omega
          case pos =>
            subst h12
            by_cases h34 : e4 = e3
            case pos =>
              subst h34
              go_quiet ((go_at_call 34; first | (with_reducible exact HB1.out _) | (with_reducible exact HB2.out _) | (with_reducible exact HB3.out _) | (with_reducible exact HB4.out _)))
              have P3 := Lib.hid (P2.out.below (W_drewN _ nq))
              have K3 := Lib.hid (tb_kept K2.out (W_drewN _ nq))
              generalize w2.drewN nq = w3 at *
              clear a1 a2 n1 n2 b0 k0 la ln lb lk HB1 HB2 HB3 HB4 P2 K2
              go_wp2_with fail
              go_roundw
              case rel => exact ⟨p + 1, by have := HLP.out; omega, by go_num, P3.out⟩
              case measure => have := HLP.out; simp [intOf]; omega
            case neg =>
              obtain rfl : e4 = !e3 := by cases e3 <;> cases e4 <;> simp at h34 ⊢
              have HC5 := Lib.hid (HC4.out (by cases e2 <;> cases e3 <;> rfl))
              clear h34
              go_quiet ((go_at_call 34; first | (with_reducible exact HB1.out _) | (with_reducible exact HB2.out _) | (with_reducible exact HB3.out _) | (with_reducible exact HB4.out _)))
              have P3 := Lib.hid (P2.out.below (W_drewN _ nq))
              have K3 := Lib.hid (tb_kept K2.out (W_drewN _ nq))
              generalize w2.drewN nq = w3 at *
              clear a1 a2 n1 n2 b0 k0 la ln lb lk HB1 HB2 HB3 HB4 P2 K2
              as_aux_lemma =>
                have f0 := cell_row (j := 0) P3.out.f rfl
                have b0 := cell_row (j := 0) P3.out.b rfl
                have lf := heap_lt P3.out.f; have lb := heap_lt P3.out.b
                have HCL := Lib.hid (HSB.out f.cl x w3 HF.out.cl)
                rw [show f.cl.testBit x = true by have := HC5.out.1; rw [HX.out] at this; exact this] at HCL
                go_wp2_with fail
                refine HCL.out.mono ?_
                rintro e w4 ⟨rfl, hb⟩
                have P4 := Lib.hid (P3.out.below hb)
                have K4 := Lib.hid (tb_kept K3.out hb)
                clear hb f0 b0 lf lb HCL
                have t3 := cell_row (j := 3) P4.out.t rfl
                have lt := heap_lt P4.out.t
                go_wp2_with fail
                clear t3 lt
                go_loopw [207] (fun i wr => ∃ n : Nat, n ≤ T.rts.length ∧ i = .int .i64 n ∧ wr.heap[pb]? = some (.cells #[.int .i64 (p : Int)] 3 (0, 0)) ∧ SW w wr tb fb wb nb bb #[.int .i64 T.tracks, .slice (some ⟨pvb, pvo, none⟩) T.pts.length vc, .int .i64 (q : Int), .slice (some ⟨rb, ro, none⟩) T.rts.length c] #[.int .u32 (f.cl : Int), .int .u32 (f.no : Int), .int .u32 (f.re : Int), .int .u32 (f.ak : Int), .int .u32 (f.ca : Int), .int .u32 (f.rq : Int)] #[.int .u32 (was.pr : Int), .int .u32 (was.no : Int), .int .u32 (was.re : Int), .int .u32 (was.lo : Int)] #[.int .u32 (now.pr : Int), .int .u32 (now.no : Int), .int .u32 (now.re : Int), .int .u32 (now.lo : Int)]) (fun i _ => T.rts.length - (intOf i).toNat)
                case atStart => exact ⟨0, Nat.zero_le _, rfl, K4.out, P4.out⟩
                case round =>
                  clear P4 K4 P3 K3
                  obtain ⟨n, hn, rfl, hk, hp'⟩ := hrel
                  have P5 := Lib.hid hp'; have K5 := Lib.hid hk
                  clear hp' hk
                  by_cases hln : n < T.rts.length
                  case pos =>
                    have HLN := Lib.hid hln
                    obtain ⟨rb', ro', C', e, hrb', hrc, hrr⟩ := HR.out.cells (i := n) hln
                    cases e
                    have x0 := (P5.out.bel.cell hrb').trans (hrc 0 (by omega)); have x1 := (P5.out.bel.cell hrb').trans (hrc 1 (by omega)); have x2 := (P5.out.bel.cell hrb').trans (hrc 2 (by omega)); have x3 := (P5.out.bel.cell hrb').trans (hrc 3 (by omega)); have x4 := (P5.out.bel.cell hrb').trans (hrc 4 (by omega)); have x5 := (P5.out.bel.cell hrb').trans (hrc 5 (by omega))
                    rw [Nat.add_zero] at x0
                    obtain ⟨A, hA⟩ : ∃ A, A = T.rts.getD n rt0 := ⟨_, rfl⟩
                    rw [← hA] at hrr
                    obtain ⟨⟨ta, tc, ht, ht1, ht2, _⟩, _⟩ := id hrr.tr
                    obtain ⟨⟨pa, pc, hp, hp1, hp2, _⟩, _⟩ := id hrr.pts
                    obtain ⟨⟨ca, cc, hcn, hc1, hc2, _⟩, _⟩ := id hrr.con
                    rw [hrr.sig] at x0; rw [ht] at x1; rw [hp] at x2; rw [hrr.app] at x3; rw [hcn] at x4; rw [hrr.hold] at x5
                    have HTR : Hid (IntsAt w (.slice ta A.tr.length tc) A.tr) := ht ▸ hrr.tr
                    have HPT : Hid (PtsAt w (.slice pa A.pts.length pc) A.pts) := hp ▸ hrr.pts
                    have HCN : Hid (IntsAt w (.slice ca A.con.length cc) A.con) := hcn ▸ hrr.con
                    have HA := Lib.hid hA
                    obtain ⟨w6, hw7⟩ : ∃ W, W = wr.alloc (.cells #[.int .i64 A.sig, .slice ta A.tr.length tc, .slice pa A.pts.length pc, .int .i64 A.app, .slice ca A.con.length cc, .int .u16 (A.hold : Int)] 46) := ⟨_, rfl⟩
                    have BA7 : Hid (Below wr.heap.size wr w6) := by rw [hw7]; exact tb_alloc_below _ _
                    have P6 := Lib.hid (P5.out.below BA7.out)
                    have K6 : Hid (w6.heap[wr.heap.size]? = some (.cells #[.int .i64 A.sig, .slice ta A.tr.length tc, .slice pa A.pts.length pc, .int .i64 A.app, .slice ca A.con.length cc, .int .u16 (A.hold : Int)] 46 (0, 0))) := by rw [hw7]; exact heap_alloc_new _ _
                    have HW7 := Lib.hid hw7
                    have lr : rb < wr.heap.size := Nat.lt_of_lt_of_le HRB.out P5.out.bel.size
                    unfold maxLen at ht2 hp2 hc2
                    clear hrb' hrc hrr hA ht hp hcn hw7
                    go_upto_region 43 with fail
                    rw [← HW7.out]
                    clear x0 x1 x2 x3 x4 x5 lr HW7
                    obtain ⟨ab, hab⟩ : ∃ ab, ab = wr.heap.size := ⟨_, rfl⟩
                    rw [← hab] at K6 ⊢
                    have BA6 := BA7
                    clear hab BA7
                    have KP6 : Hid (w6.heap[pb]? = some (.cells #[.int .i64 (p : Int)] 3 (0, 0))) := tb_kept K5.out BA6.out
                    have HND0 : Hid (was.lo.testBit n = true → now.lo.testBit n = true → (hasI A.tr (x : Int) || (A.pts.any fun y => y.1 == (p : Int))) = false) := by
                      show _ → _ → _ = _
                      intro h1 h2
                      have := HC5.out.2 n HLN.out h1 h2
                      rw [← HA.out] at this
                      unfold needsB at this
                      rw [HX.out] at this
                      exact this
                    have HCT := Lib.hid (contains_b _ _ (x : Int) w6 (HTR.out.below P6.out.bel))
                    have k1 := cell_row (j := 1) K6.out rfl
                    have lk := heap_lt K6.out
                    cases hh : hasI A.tr (x : Int)
                    case true =>
                      rw [hh] at HCT
                      have HND : Hid (was.lo.testBit n = true → now.lo.testBit n = true → true = false) := by have := HND0.out; rw [hh, Bool.true_or] at this; exact this
                      clear hh
                      go_wp2_with fail
                      refine HCT.out.mono ?_
                      rintro e w7 ⟨rfl, hb⟩
                      have P7 := Lib.hid (P6.out.below hb)
                      have KP7 := Lib.hid (tb_kept KP6.out hb)
                      clear hb k1 lk
                      go_upto_region 44 with fail
                      have b0 := cell_row (j := 0) P7.out.b rfl
                      have a3 := cell_row (j := 3) P7.out.a rfl
                      have n3 := cell_row (j := 3) P7.out.n rfl
                      have lb := heap_lt P7.out.b; have la := heap_lt P7.out.a; have ln := heap_lt P7.out.n
                      have HL1 := Lib.hid (HSB.out was.lo n w7 HWA.out.lo)
                      cases l1 : was.lo.testBit n
                      case false =>
                        rw [l1] at HL1
                        clear l1
                        go_wp2_with fail
                        refine HL1.out.mono ?_
                        rintro e v3 ⟨rfl, hb⟩
                        have PV := Lib.hid (P7.out.below hb)
                        have KV := Lib.hid (tb_kept KP7.out hb)
                        clear hb b0 a3 n3 lb la ln
                        go_wp2_with fail
                        go_roundw
                        case rel => exact ⟨n + 1, by have := HLN.out; omega, by go_num, KV.out, PV.out⟩
                        case measure => have := HLN.out; simp [intOf]; omega
                      case true =>
                        rw [l1] at HL1
                        go_wp2_with fail
                        refine HL1.out.mono ?_
                        rintro e v3 ⟨rfl, hb⟩
                        have PV := Lib.hid (P7.out.below hb)
                        have KV := Lib.hid (tb_kept KP7.out hb)
                        clear hb b0 a3 n3 lb la ln
                        have b0 := cell_row (j := 0) PV.out.b rfl
                        have n3 := cell_row (j := 3) PV.out.n rfl
                        have lb := heap_lt PV.out.b; have ln := heap_lt PV.out.n
                        have HL2 := Lib.hid (HSB.out now.lo n v3 HNO.out.lo)
                        cases l2 : now.lo.testBit n
                        case false =>
                          rw [l2] at HL2
                          clear l1 l2
                          go_wp2_with fail
                          refine HL2.out.mono ?_
                          rintro e v4 ⟨rfl, hb⟩
                          have PZ := Lib.hid (PV.out.below hb)
                          have KZ := Lib.hid (tb_kept KV.out hb)
                          clear hb b0 n3 lb ln
                          go_wp2_with fail
                          go_roundw
                          case rel => exact ⟨n + 1, by have := HLN.out; omega, by go_num, KZ.out, PZ.out⟩
                          case measure => have := HLN.out; simp [intOf]; omega
                        case true =>
                          have hD := HND.out l1 l2
                          rw [l2] at HL2
                          clear l1 l2
                          cases hD
                          all_goals
                            go_wp2_with fail
                            refine HL2.out.mono ?_
                            rintro e v4 ⟨rfl, hb⟩
                            have PZ := Lib.hid (PV.out.below hb)
                            have KZ := Lib.hid (tb_kept KV.out hb)
                            clear hb b0 n3 lb ln
                            go_wp2_with fail
                            go_roundw
                            case rel => exact ⟨n + 1, by have := HLN.out; omega, by go_num, KZ.out, PZ.out⟩
                            case measure => have := HLN.out; simp [intOf]; omega
                    case false =>
                      rw [hh] at HCT
                      have HND : Hid (was.lo.testBit n = true → now.lo.testBit n = true → (A.pts.any fun y => y.1 == (p : Int)) = false) := by have := HND0.out; rw [hh, Bool.false_or] at this; exact this
                      clear hh
                      go_wp2_with fail
                      refine HCT.out.mono ?_
                      rintro e w7 ⟨rfl, hb⟩
                      have P7 := Lib.hid (P6.out.below hb)
                      have K7 := Lib.hid (tb_kept K6.out hb)
                      have KP7 := Lib.hid (tb_kept KP6.out hb)
                      clear hb k1 lk
                      have k2 := cell_row (j := 2) K7.out rfl
                      have lk := heap_lt K7.out
                      have HQ : Hid (Calls Try.prog 36 #[.slice pa A.pts.length pc, .func (.func 37) #[] #[.pointer (some ⟨pb, 0, none⟩)]] w7 fun e w' => e = .returned (.bool (A.pts.any fun y => y.1 == (p : Int))) ∧ Below w7.heap.size w7 w') :=
                        containsF_pt _ A.pts _ _ (fun y => y.1 == (p : Int)) w7 (HPT.out.below P7.out.bel) (enters_of Try.func37 (by kernel_rfl) rfl)
                          (fun i hi W hW => safe3_any (A.pts.getD i (0, false)) p pb W (tb_kept KP7.out hW))
                      generalize (A.pts.any fun y => y.1 == (p : Int)) = d at *
                      go_wp2_with fail
                      refine HQ.out.mono ?_
                      rintro e w8 ⟨rfl, hb⟩
                      have P8 := Lib.hid (P7.out.below hb)
                      have KP8 := Lib.hid (tb_kept KP7.out hb)
                      clear hb k2 lk
                      go_upto_region 44 with fail
                      have b0 := cell_row (j := 0) P8.out.b rfl
                      have a3 := cell_row (j := 3) P8.out.a rfl
                      have n3 := cell_row (j := 3) P8.out.n rfl
                      have lb := heap_lt P8.out.b; have la := heap_lt P8.out.a; have ln := heap_lt P8.out.n
                      have HL1 := Lib.hid (HSB.out was.lo n w8 HWA.out.lo)
                      cases l1 : was.lo.testBit n
                      case false =>
                        rw [l1] at HL1
                        clear l1
                        go_wp2_with fail
                        refine HL1.out.mono ?_
                        rintro e v3 ⟨rfl, hb⟩
                        have PV := Lib.hid (P8.out.below hb)
                        have KV := Lib.hid (tb_kept KP8.out hb)
                        clear hb b0 a3 n3 lb la ln
                        go_wp2_with fail
                        go_roundw
                        case rel => exact ⟨n + 1, by have := HLN.out; omega, by go_num, KV.out, PV.out⟩
                        case measure => have := HLN.out; simp [intOf]; omega
                      case true =>
                        rw [l1] at HL1
                        go_wp2_with fail
                        refine HL1.out.mono ?_
                        rintro e v3 ⟨rfl, hb⟩
                        have PV := Lib.hid (P8.out.below hb)
                        have KV := Lib.hid (tb_kept KP8.out hb)
                        clear hb b0 a3 n3 lb la ln
                        have b0 := cell_row (j := 0) PV.out.b rfl
                        have n3 := cell_row (j := 3) PV.out.n rfl
                        have lb := heap_lt PV.out.b; have ln := heap_lt PV.out.n
                        have HL2 := Lib.hid (HSB.out now.lo n v3 HNO.out.lo)
                        cases l2 : now.lo.testBit n
                        case false =>
                          rw [l2] at HL2
                          clear l1 l2
                          go_wp2_with fail
                          refine HL2.out.mono ?_
                          rintro e v4 ⟨rfl, hb⟩
                          have PZ := Lib.hid (PV.out.below hb)
                          have KZ := Lib.hid (tb_kept KV.out hb)
                          clear hb b0 n3 lb ln
                          go_wp2_with fail
                          go_roundw
                          case rel => exact ⟨n + 1, by have := HLN.out; omega, by go_num, KZ.out, PZ.out⟩
                          case measure => have := HLN.out; simp [intOf]; omega
                        case true =>
                          have hD := HND.out l1 l2
                          rw [l2] at HL2
                          clear l1 l2
                          cases hD
                          all_goals
                            go_wp2_with fail
                            refine HL2.out.mono ?_
                            rintro e v4 ⟨rfl, hb⟩
                            have PZ := Lib.hid (PV.out.below hb)
                            have KZ := Lib.hid (tb_kept KV.out hb)
                            clear hb b0 n3 lb ln
                            go_wp2_with fail
                            go_roundw
                            case rel => exact ⟨n + 1, by have := HLN.out; omega, by go_num, KZ.out, PZ.out⟩
                            case measure => have := HLN.out; simp [intOf]; omega
                  case neg =>
                  obtain rfl : n = T.rts.length := by omega
                  go_wp2_with fail
                  go_roundw
                  case rel => exact ⟨p + 1, by have := HLP.out; omega, by go_num, P5.out⟩
                  case measure => have := HLP.out; simp [intOf]; omega
        case neg =>
        obtain rfl : p = T.pts.length := by omega
        go_wp2_with fail
        go_ret
        exact ⟨rfl, P1.out.bel⟩
end Go.Proofs.Ytlfcmedhadfheaa
