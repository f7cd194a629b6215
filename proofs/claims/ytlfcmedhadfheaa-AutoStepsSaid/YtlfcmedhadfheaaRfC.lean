/- The document's table: Conflicts. -/
import Derived.Test.YtlfcmedhadfheaaRfB
namespace Go.Proofs.Ytlfcmedhadfheaa
open Go.RowKit
set_option linter.unusedVariables false
set_option linter.unusedSimpArgs false
theorem infoIS : (Try.prog.info? 22).map (fun i => (i.zero, i.size, i.bytes)) = some (some (.slice none 0 0), 1, 24) := by kernel_rfl
def rowsV (V : Nat → Value) (n : Nat) : List Value := (List.range n).map V
theorem rowsV_snoc (V : Nat → Value) (n : Nat) (x : Value) : rowsV V n ++ [x] = rowsV (fun j => if j = n then x else V j) (n + 1) := by
  unfold rowsV
  rw [List.range_succ, List.map_append]
  congr 1
  · exact List.map_congr_left fun j hj => by
      have : j ≠ n := by have := List.mem_range.1 hj; omega
      rw [if_neg this]
  · simp
theorem rowsV_get {V : Nat → Value} {n i : Nat} (h : i < n) : (rowsV V n)[i]? = some (V i) := by
  unfold rowsV
  rw [List.getElem?_map, List.getElem?_range h]
  rfl
/-- A row that lies, off the block that holds the rows. -/
structure RI (w : World) (vo x : Value) (l : List Int) : Prop where
  at_ : IntsAt w x l
  off : ∀ b o k c, x = .slice (some ⟨b, o, none⟩) k c → vo.ownBlock ≠ some b ∧ b < w.heap.size
theorem RI.below {w w' : World} {vo x : Value} {l : List Int} (h : RI w vo x l) (hb : Below w.heap.size w w') : RI w' vo x l :=
  ⟨h.at_.below hb, fun b o k c e => ⟨(h.off b o k c e).1, Nat.lt_of_lt_of_le (h.off b o k c e).2 hb.size⟩⟩
def RConfP (T : Tab) (m : Nat) (w : World) (e : Ending) (w' : World) : Prop := (∃ v b V, e = .returned v ∧ SlAt w' v b 22 m V ∧ ∀ j, j < m → IntsAt w' (V j) (confL T j m)) ∧ Below w.heap.size w w'
set_option maxRecDepth 100000 in
set_option maxHeartbeats 4000000 in
theorem rconf_any (v : Value) (T : Tab) (w : World) (hT : TabAt w v T) (hn : T.rts.length ≤ 1000) (h1 : 0 < T.rts.length) :
    Calls Try.prog 41 #[v] w (RConfP T T.rts.length w) := by
  have HT := Lib.hid hT
  obtain ⟨⟨vp, vr, rfl, hP, hr⟩, _, _⟩ := hT
  obtain ⟨a, c, C0, rfl, hlc, hcm, _⟩ := hr.at_
  obtain ⟨rb, roff, _, rfl, hrb, _, _⟩ := hr.cells (i := 0) h1
  have HR := Lib.hid hr
  obtain ⟨i0, hi, hz0, hz1, hz2⟩ := tb_info infoI
  have HIn := Lib.hid hi; have HZ0 := Lib.hid hz0; have HZ1 := Lib.hid hz1; have HZ2 := Lib.hid hz2
  obtain ⟨iS, hi', hz0', hz1', hz2'⟩ := tb_info infoIS
  have SIn := Lib.hid hi'; have SZ0 := Lib.hid hz0'; have SZ1 := Lib.hid hz1'; have SZ2 := Lib.hid hz2'
  obtain ⟨m, hm⟩ : ∃ m, m = T.rts.length := ⟨_, rfl⟩
  rw [← hm] at hn hlc HT HR ⊢
  have HLEN := Lib.hid hm
  obtain ⟨w1, hw1⟩ : ∃ w1, w1 = w.alloc (.cells #[.int .i64 T.tracks, vp, .int .i64 T.sigs, .slice (some ⟨rb, roff, none⟩) m c] 25) := ⟨_, rfl⟩
  have B1 : Hid (Below w.heap.size w w1) := by rw [hw1]; exact tb_alloc_below _ _
  have K1 : Hid (w1.heap[w.heap.size]? = some (.cells #[.int .i64 T.tracks, vp, .int .i64 T.sigs, .slice (some ⟨rb, roff, none⟩) m c] 25 (0, 0))) := by rw [hw1]; exact heap_alloc_new _ _
  have HW1 := Lib.hid hw1
  have HRB := Lib.hid hrb
  have HN := Lib.hid hn
  unfold maxLen at hcm
  clear hi hz0 hz1 hz2 hi' hz0' hz1' hz2' hm hw1 hP hr hrb h1
  go_enter Try.func41, Try.ntmps41
  go_upto_region 1 with fail
  rw [← HW1.out]
  obtain ⟨tb, htb⟩ : ∃ b, b = w.heap.size := ⟨_, rfl⟩
  rw [← htb] at K1 ⊢
  clear htb HW1
  go_wp2_with fail
  go_loopw [3, 4, 5, 6] (fun o i _l _k wr => ∃ (k : Nat) (vo : Value) (V : Nat → Value), k ≤ m ∧ vo = o ∧ i = .int .i64 k ∧ wr.ownsRow w1.heap.size 22 1 vo k (rowsV V k) ∧ (∀ j, j < k → RI wr vo (V j) (confL T j m)) ∧ Below w1.heap.size w1 wr) (fun _ i _ _ _ => m - (intOf i).toNat)
  case atStart => exact ⟨0, .slice none 0 0, fun _ => undef, Nat.zero_le _, rfl, rfl, ⟨rfl, .inl ⟨rfl, rfl⟩⟩, fun j hj => absurd hj (by omega), Below.refl _ _⟩
  case round =>
    obtain ⟨i, vo, V, hi, rfl, rfl, hown, hin, hb⟩ := hrel
    have O3 := Lib.hid hown; have I3 := Lib.hid hin; have B3 := Lib.hid hb
    have BW3 : Hid (Below w.heap.size w wr) := B1.out.trans (hb.mono B1.out.size)
    clear hown hin hb
    have c3 := cell_row (j := 3) (tb_kept K1.out B3.out) rfl
    have l1 := heap_lt (tb_kept K1.out B3.out)
    by_cases hlt : i < m
    case pos =>
      go_wp2_with fail
      clear c3 l1
      obtain ⟨w4, hw4⟩ : ∃ x : World, x = wr := ⟨_, rfl⟩
      rw [← hw4] at O3 I3 B3 BW3
      have HLT := Lib.hid hlt
      have HO4 : Hid (∀ g, vo.ownBlock = some g → g < w4.heap.size) := fun g hg => (O3.out.lt g hg).2
      go_loopw [5, 6] (fun x k wr => ∃ (kk : Nat) (v : Value), kk ≤ m ∧ v = x ∧ k = .int .i64 kk ∧ wr.ownsRow w4.heap.size 3 1 v (confL T i kk).length (intsV (confL T i kk)) ∧ Below w4.heap.size w4 wr) (fun _ k _ => m - (intOf k).toNat)
      case atStart => exact ⟨0, .slice none 0 0, Nat.zero_le _, rfl, rfl, ⟨rfl, .inl ⟨rfl, rfl⟩⟩, by rw [hw4]; exact Below.refl _ _⟩
      case round =>
        clear hw4
        obtain ⟨k, v, hk, rfl, rfl, hown, hb⟩ := hrel
        have O5 := Lib.hid hown; have B45 := Lib.hid hb
        have B5 : Hid (Below w1.heap.size w1 wr) := B3.out.trans (hb.mono B3.out.size)
        have BW5 : Hid (Below w.heap.size w wr) := BW3.out.trans (hb.mono BW3.out.size)
        clear hown hb
        have K5 : Hid (wr.heap[tb]? = some (.cells #[.int .i64 T.tracks, vp, .int .i64 T.sigs, .slice (some ⟨rb, roff, none⟩) m c] 25 (0, 0))) := tb_kept K1.out B5.out
        have c3 := cell_row (j := 3) K5.out rfl
        have l1 := heap_lt K5.out
        by_cases hltk : k < m
        case pos =>
          have HCL : Hid ((confL T i k).length ≤ k) := confL_len T i k
          go_upto_region 9 with fail
          by_cases hik : k = i
          case pos =>
            have HCK : Hid (confL T i (k + 1) = confL T i k) := by show _ = _; rw [confL, hik]; simp
            have t1 : ((k : Int) != (i : Int)) = false := by simp [hik]
            clear hik
            go_quiet (fail)
            have O6 : Hid ((wr.drewN nq).ownsRow w4.heap.size 3 1 v (confL T i k).length (intsV (confL T i k))) := tb_own O5.out (Only.of_below (fun _ => False) (MW_drewN _ nq)) (fun _ _ h => h)
            have B6 : Hid (Below w4.heap.size w4 (wr.drewN nq)) := ⟨B45.out.os, B45.out.tape, B45.out.output, B45.out.size, B45.out.block⟩
            generalize wr.drewN nq = w6 at *
            clear c3 l1
            go_wp2_with fail
            go_roundw
            case rel => exact ⟨k + 1, v, by omega, rfl, by go_num, by rw [HCK.out]; exact O6.out, B6.out⟩
            case measure => simp [intOf]; omega
          case neg =>
            have t1 : ((k : Int) != (i : Int)) = true := by simp; omega
            have HCK : Hid (confL T i (k + 1) = if mustB T.pts (T.rts.getD i rt0) (T.rts.getD k rt0) then confL T i k ++ [(k : Int)] else confL T i k) := by
              show _ = _
              rw [confL]
              have : (i != k) = true := by simp; omega
              rw [this, Bool.true_and]
            obtain ⟨rb', roff', C', e, hrb, hrc, hrr⟩ := HR.out.cells (i := i) (by rw [← HLEN.out]; omega)
            cases e
            have x0 := (BW5.out.cell hrb).trans (hrc 0 (by omega)); have x1 := (BW5.out.cell hrb).trans (hrc 1 (by omega)); have x2 := (BW5.out.cell hrb).trans (hrc 2 (by omega)); have x3 := (BW5.out.cell hrb).trans (hrc 3 (by omega)); have x4 := (BW5.out.cell hrb).trans (hrc 4 (by omega)); have x5 := (BW5.out.cell hrb).trans (hrc 5 (by omega))
            rw [Nat.add_zero] at x0
            have hV := hrr.rval
            obtain ⟨A, hA⟩ : ∃ A, A = T.rts.getD i rt0 := ⟨_, rfl⟩
            rw [← hA] at hrr hV HCK
            obtain ⟨⟨ta, tc, ht, _⟩, _⟩ := hrr.tr
            obtain ⟨⟨pa, pc, hp, _⟩, _⟩ := hrr.pts
            obtain ⟨⟨ca, cc, hcn, _⟩, _⟩ := hrr.con
            rw [hrr.sig] at x0 hV; rw [ht] at x1 hV; rw [hp] at x2 hV; rw [hrr.app] at x3 hV; rw [hcn] at x4 hV; rw [hrr.hold] at x5 hV
            have HVA := Lib.hid (hV.below BW5.out)
            clear hA hrr hrc hV ht hp hcn
            have hrb5 : rb < wr.heap.size := Nat.lt_of_lt_of_le hrb BW5.out.size
            clear hrb
            obtain ⟨rb', roff', C', e, hrb, hrc, hrr⟩ := HR.out.cells (i := k) (by rw [← HLEN.out]; omega)
            cases e
            have y0 := (BW5.out.cell hrb).trans (hrc 0 (by omega)); have y1 := (BW5.out.cell hrb).trans (hrc 1 (by omega)); have y2 := (BW5.out.cell hrb).trans (hrc 2 (by omega)); have y3 := (BW5.out.cell hrb).trans (hrc 3 (by omega)); have y4 := (BW5.out.cell hrb).trans (hrc 4 (by omega)); have y5 := (BW5.out.cell hrb).trans (hrc 5 (by omega))
            rw [Nat.add_zero] at y0
            have hV := hrr.rval
            obtain ⟨D, hA⟩ : ∃ A, A = T.rts.getD k rt0 := ⟨_, rfl⟩
            rw [← hA] at hrr hV HCK
            obtain ⟨⟨ua, uc, ht, _⟩, _⟩ := hrr.tr
            obtain ⟨⟨qa, qc, hp, _⟩, _⟩ := hrr.pts
            obtain ⟨⟨da, dc, hcn, _⟩, _⟩ := hrr.con
            rw [hrr.sig] at y0 hV; rw [ht] at y1 hV; rw [hp] at y2 hV; rw [hrr.app] at y3 hV; rw [hcn] at y4 hV; rw [hrr.hold] at y5 hV
            have HVD := Lib.hid (hV.below BW5.out)
            clear hA hrr hrc hV ht hp hcn
            clear hrb
            have c0 := cell_row (j := 0) K5.out rfl; have c1 := cell_row (j := 1) K5.out rfl; have c2 := cell_row (j := 2) K5.out rfl
            obtain ⟨r, hr⟩ : ∃ r, r = mustB T.pts A D := ⟨_, rfl⟩
            rw [← hr] at HCK
            have HR5 := Lib.hid hr
            clear hr
            obtain ⟨U, fU, hUn, hU1, hU2⟩ := class_of (fun V => Below wr.heap.size wr V) (W := wr.drew) ⟨rfl, rfl, rfl, Nat.le_refl _, fun _ _ => rfl⟩
            have HU1 := Lib.hid hU1; have HU2 := Lib.hid hU2
            clear hU1 hU2
            have hfm : (Try.prog).follows .mixedOrders = true := by kernel_rfl
            obtain ⟨q, hd1⟩ : ∃ q : Nat, 1 ≤ q := ⟨1, Nat.le_refl _⟩
            have z0 := fun uu => ((HU1.out uu).cell l1).trans c0
            have z1 := fun uu => ((HU1.out uu).cell l1).trans c1
            have z2 := fun uu => ((HU1.out uu).cell l1).trans c2
            have z3 := fun uu => ((HU1.out uu).cell l1).trans c3
            have xx0 := fun uu => ((HU1.out uu).cell hrb5).trans x0
            have yy0 := fun uu => ((HU1.out uu).cell hrb5).trans y0
            have xx1 := fun uu => ((HU1.out uu).cell hrb5).trans x1
            have yy1 := fun uu => ((HU1.out uu).cell hrb5).trans y1
            have xx2 := fun uu => ((HU1.out uu).cell hrb5).trans x2
            have yy2 := fun uu => ((HU1.out uu).cell hrb5).trans y2
            have xx3 := fun uu => ((HU1.out uu).cell hrb5).trans x3
            have yy3 := fun uu => ((HU1.out uu).cell hrb5).trans y3
            have xx4 := fun uu => ((HU1.out uu).cell hrb5).trans x4
            have yy4 := fun uu => ((HU1.out uu).cell hrb5).trans y4
            have xx5 := fun uu => ((HU1.out uu).cell hrb5).trans x5
            have yy5 := fun uu => ((HU1.out uu).cell hrb5).trans y5
            have hMU : ∀ uu, Calls Try.prog 64 #[.agg #[.int .i64 T.tracks, vp, .int .i64 T.sigs, .slice (some ⟨rb, roff, none⟩) m c], .agg #[.int .i64 A.sig, .slice ta A.tr.length tc, .slice pa A.pts.length pc, .int .i64 A.app, .slice ca A.con.length cc, .int .u16 (A.hold : Int)], .agg #[.int .i64 D.sig, .slice ua D.tr.length uc, .slice qa D.pts.length qc, .int .i64 D.app, .slice da D.con.length dc, .int .u16 (D.hold : Int)]] (fU uu) fun e w' => e = .returned (.bool r) ∧ Below (fU uu).heap.size (fU uu) w' := fun uu => by
              rw [HR5.out]
              exact rmust_any _ _ _ T A D (fU uu) (HT.out.below (BW5.out.trans ((HU1.out uu).mono BW5.out.size))) (HVA.out.below (HU1.out uu)) (HVD.out.below (HU1.out uu))
            have HMU := Lib.hid hMU
            clear hMU
            have h0_HRC : ∀ uu, Calls Try.prog 64 #[.agg #[.int .i64 T.tracks, vp, .int .i64 T.sigs, .slice (some ⟨rb, roff, none⟩) m c], .agg #[.int .i64 A.sig, .slice ta A.tr.length tc, .slice pa A.pts.length pc, .int .i64 A.app, .slice ca A.con.length cc, .int .u16 (A.hold : Int)], .agg #[.int .i64 D.sig, .slice ua D.tr.length uc, .slice qa D.pts.length qc, .int .i64 D.app, .slice da D.con.length dc, .int .u16 (D.hold : Int)]] (fU uu) fun e w' => e = .returned (.bool r) ∧ Below (fU uu).heap.size (fU uu) w' := fun uu => HMU.out uu
            have HRC : Hid (∀ uu, CallsIn Fence.wide (q - 1) Try.prog 64 #[.agg #[.int .i64 T.tracks, vp, .int .i64 T.sigs, .slice (some ⟨rb, roff, none⟩) m c], .agg #[.int .i64 A.sig, .slice ta A.tr.length tc, .slice pa A.pts.length pc, .int .i64 A.app, .slice ca A.con.length cc, .int .u16 (A.hold : Int)], .agg #[.int .i64 D.sig, .slice ua D.tr.length uc, .slice qa D.pts.length qc, .int .i64 D.app, .slice da D.con.length dc, .int .u16 (D.hold : Int)]] (fU uu) fun e w' => e = .returned (.bool r) ∧ ∃ uu', w' = fU uu') := fun uu => (callsIn_wide.2 (h0_HRC uu)).mono (fun e w' ⟨he, hb⟩ => ⟨he, HU2.out _ ((HU1.out uu).trans (hb.mono (HU1.out uu).size))⟩)
            have hf_HRC : Fence.wide.fn 64 := trivial
            clear h0_HRC
            clear c0 c1 c2 c3 x0 x1 x2 x3 x4 x5 y0 y1 y2 y3 y4 y5
            refine (wpIn_wide (n := q)).1 ?_
            refine wpIn_region_cls fU (by kernel_rfl) hfm (by kernel_rfl) (HU2.out _ ⟨rfl, rfl, rfl, Nat.le_refl _, fun _ _ => rfl⟩) ?_
            repeat (gi_big_quiet_step ((gi_at_call 64; (with_reducible exact HRC.out _))))
            refine wpQuietIn_nil ?_
            rintro w6 ⟨uu, rfl⟩
            have O6 : Hid ((fU uu).ownsRow w4.heap.size 3 1 v (confL T i k).length (intsV (confL T i k))) := tb_own O5.out (Only.of_below (fun _ => False) (HU1.out uu)) (fun _ _ h => h)
            have B6 : Hid (Below w4.heap.size w4 (fU uu)) := B45.out.trans ((HU1.out uu).mono B45.out.size)
            generalize fU uu = w6 at *
            clear HU1 HU2 HRC HMU z0 z1 z2 z3 xx0 xx1 xx2 xx3 xx4 xx5 yy0 yy1 yy2 yy3 yy4 yy5 hrb5 l1
            cases r
            case false =>
              go_wp2_with fail
              go_roundw
              case rel => exact ⟨k + 1, v, by omega, rfl, by go_num, by rw [HCK.out]; exact O6.out, B6.out⟩
              case measure => simp [intOf]; omega
            case true =>
              have HC1 : Hid (confL T i (k + 1) = confL T i k ++ [(k : Int)]) := HCK.out
              have HO := Lib.hid (O6.out.alloc (.cells #[.int .i64 (k : Int)] 3))
              have HZ : Hid (w4.heap.size ≤ w6.heap.size) := B6.out.size
              have HLT2 : Hid ((confL T i k).length ≤ 1000000) := by have := HCL.out; have := HN.out; show _ ≤ _; omega
              generalize hcl : confL T i k = cl at *
              go_wp2_with (at_builtin; refine wpList_append_own_at _ rfl _ _ 22 rfl w4.heap.size 3 i0 (.int .i64 0) 1 8 Try.underlying22 HIn.out HZ0.out HZ1.out HZ2.out rfl (by decide) v cl.length _ rfl HO.out ⟨w6.heap.size, 0, none⟩ 1 1 [.int .i64 (k : Int)] rfl rfl (cell_one_new _ _ _) (fun u hu => by simp at hu; subst hu; rfl) (by have := HLT2.out; unfold maxLen; omega) (by have := HLT2.out; omega) (by have := HZ.out; simp; omega) ?_)
              intro v8 w8 ho8 hg8 _ _
              have B8 : Hid (Below w4.heap.size w4 w8) := (B6.out.alloc B6.out.size _).grown hg8 (by simp; have := HZ.out; omega) (fun g hg => (O6.out.lt g hg).1)
              rw [← intsV_snoc, ← HC1.out, show cl.length + 1 = (confL T i (k + 1)).length by rw [HC1.out]; simp] at ho8
              have O8 := Lib.hid ho8
              clear ho8 hg8 HO
              go_wp2_with fail
              go_roundw
              case rel => exact ⟨k + 1, v8, by omega, rfl, by go_num, O8.out, B8.out⟩
              case measure => simp [intOf]; omega
        case neg =>
        obtain rfl : k = m := by omega
        have HI5 : Hid (IntsAt wr v (confL T i k)) := own_ints O5.out (fun x hx => by
          have := confL_ok T i k (by have := HN.out; omega) ((confL T i k).getD x 0) (by rw [List.getD_eq_getElem?_getD, List.getElem?_eq_getElem hx]; exact List.getElem_mem hx)
          have := HN.out
          unfold i64ok; omega)
        obtain ⟨⟨va, vc, hvv, _⟩, _⟩ := id HI5.out
        subst hvv
        have HOV : Hid (∀ b o kk cc, (Value.slice va (confL T i k).length vc) = .slice (some ⟨b, o, none⟩) kk cc → w4.heap.size ≤ b ∧ b < wr.heap.size) := fun b o kk cc e => by
          cases e
          rcases O5.out.2 with ⟨h, _⟩ | ⟨g, cap, cur, h, hg, hh, _⟩
          · cases h
          · cases h; exact ⟨hg, heap_lt hh⟩
        have OO5 : Hid (wr.ownsRow w1.heap.size 22 1 vo i (rowsV V i)) := tb_own O3.out (Only.of_below (fun _ => False) B45.out) (fun _ _ h => h)
        have HO := Lib.hid (OO5.out.alloc (.cells #[.slice va (confL T i k).length vc] 22))
        have HZ : Hid (w1.heap.size ≤ wr.heap.size) := B5.out.size
        have HLI : Hid (i ≤ 1000) := by have := HN.out; have := HLT.out; show _ ≤ _; omega
        go_wp2_with (at_builtin; refine wpList_append_own_at _ rfl _ _ 74 rfl w1.heap.size 22 iS (.slice none 0 0) 1 24 Try.underlying74 SIn.out SZ0.out SZ1.out SZ2.out rfl (by decide) vo i _ rfl HO.out ⟨wr.heap.size, 0, none⟩ 1 1 [.slice va (confL T i k).length vc] rfl rfl (cell_one_new _ _ _) (fun u hu => by simp at hu; subst hu; rfl) (by have := HLI.out; unfold maxLen; omega) (by have := HLI.out; omega) (by have := HZ.out; simp; omega) ?_)
        intro v8 w8 ho8 hg8 _ hb8
        have B8 : Hid (Below w1.heap.size w1 w8) := (B5.out.alloc B5.out.size _).grown hg8 (by simp; have := HZ.out; omega) (fun g hg => (OO5.out.lt g hg).1)
        have L8 : Only (fun b => vo.ownBlock = some b) wr w8 := ((Only.refl _ wr).alloc _).trans (Only.grown hg8 (fun g hg => .inr hg))
        have hz8 : (wr.alloc (.cells #[.slice va (confL T i k).length vc] 22)).heap.size = wr.heap.size + 1 := Array.size_push _
        rw [rowsV_snoc] at ho8
        have O8 := Lib.hid ho8
        have I8 : Hid (∀ j, j < i + 1 → RI w8 v8 (if j = i then .slice va (confL T i k).length vc else V j) (confL T j k)) := fun j hj => by
          have key : ∀ x l, IntsAt wr x l → (∀ b o kk cc, x = .slice (some ⟨b, o, none⟩) kk cc → vo.ownBlock ≠ some b ∧ b < wr.heap.size) → RI w8 v8 x l := fun x l h1 h2 =>
            ⟨h1.only L8 (fun b o kk cc e hm => (h2 b o kk cc e).1 hm), fun b o kk cc e => by
              have := h2 b o kk cc e
              refine ⟨?_, Nat.lt_of_lt_of_le this.2 L8.size⟩
              rcases hb8 with h | h
              · rw [h]; exact this.1
              · rw [h]; try rw [hz8]
                intro e2; cases e2; omega⟩
          by_cases e : j = i
          · subst e
            rw [if_pos rfl]
            exact key _ _ HI5.out (fun b o kk cc e => ⟨fun h => by have := HO4.out _ h; have := (HOV.out b o kk cc e).1; omega, (HOV.out b o kk cc e).2⟩)
          · rw [if_neg e]
            have := (I3.out j (by omega)).below B45.out
            exact key _ _ this.at_ this.off
        clear ho8 hg8 hb8 L8 hz8 HO c3 l1
        go_wp2_with fail
        go_roundw
        case rel => exact ⟨i + 1, v8, _, by have := HLT.out; omega, rfl, by go_num, O8.out, I8.out, B8.out⟩
        case measure => have := HLT.out; simp [intOf]; omega
    case neg =>
    obtain rfl : i = m := by omega
    obtain ⟨b, hsl, _⟩ := SlAt.of_own (V := V) O3.out (fun j hj => rowsV_get hj)
    have HSL := Lib.hid hsl
    clear hsl
    go_wp2_with fail
    go_ret
    exact ⟨⟨vo, b, V, rfl, HSL.out, fun j hj => (I3.out j hj).at_⟩, BW3.out⟩
end Go.Proofs.Ytlfcmedhadfheaa
