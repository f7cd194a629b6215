/- A frame: Step. -/
import Derived.Test.YtnjeiigdfdjccaaAutP
namespace Go.Proofs.Ytnjeiigdfdjccaa
open Go.RowKit
set_option linter.unusedVariables false
set_option linter.unusedSimpArgs false
theorem rs0_ok : rs0.Ok := ⟨by decide, by decide, by decide, by decide⟩
theorem trainR_ok (f : FD) (l : List Int) (hl : l.length ≤ 24) {r : RS} (h : r.Ok) : (trainR f l r).Ok := by
  unfold trainR
  split
  · exact rs0_ok
  · exact ⟨h.ph, h.tm, usedN_lt f l r.us h.us _ hl, relN_lt f l _ r.rl h.rl _ hl⟩
theorem goR_ok (f : FD) (t : Rt) (n : Nat) (hl : t.tr.length ≤ 24) {r : RS} (h : r.Ok) : (goR f t n r).Ok := by
  have h1 : (goR1 f t n r).Ok := by
    unfold goR1
    split
    · exact ⟨by show 3 < 4; decide, by show 0 < 65536; decide, by show 0 < 4294967296; decide, by show 0 < 4294967296; decide⟩
    · split
      · split
        · exact ⟨by show 2 < 4; decide, by show 0 < 65536; decide, by show 0 < 4294967296; decide, by show 0 < 4294967296; decide⟩
        · exact rs0_ok
      · split
        · split
          · exact rs0_ok
          · refine ⟨h.ph, ?_, h.us, h.rl⟩
            show upTime r.tm < 65536
            have := h.tm
            unfold upTime
            split <;> omega
        · exact h
  unfold goR
  split
  · exact h
  · split
    · exact trainR_ok f t.tr hl h1
    · exact h1
theorem setC_lt (C : Nat → Nat) (h : ∀ p, C p < 3) (l : List (Int × Bool)) : ∀ k p, setC C l k p < 3
  | 0, p => h p
  | k + 1, p => by
    show (if p = _ then needP _ else setC C l k p) < 3
    split
    · exact needP_lt _
    · exact setC_lt C h l k p
theorem askS_ok (T : Tab) (f : FD) {S : AS} (n : Nat) (h : S.Ok) : (askS T f S n).Ok := by
  unfold askS
  split
  · refine ⟨fun j => ?_, fun p => setC_lt _ h.C _ _ _⟩
    show (if j = n then _ else S.R j : RS).Ok
    split
    · exact ⟨by show 1 < 4; decide, (h.R n).tm, (h.R n).us, (h.R n).rl⟩
    · exact h.R j
  · exact h
theorem goS_eq (T : Tab) (f : FD) (S : AS) (n : Nat) : goS T f S n = S.setR n (goR f (T.rts.getD n rt0) n (S.R n)) := rfl
theorem goK_ok (T : Tab) (f : FD) {S : AS} (h : S.Ok) (hT : ∀ n, n < T.rts.length → (T.rts.getD n rt0).tr.length ≤ 24) : ∀ k, k ≤ T.rts.length → (goK T f S k).Ok
  | 0, _ => h
  | k + 1, hk => (goK_ok T f h hT k (by omega)).setR k (goR_ok f _ k (hT k (by omega)) ((goK_ok T f h hT k (by omega)).R k))
theorem askK_ok (T : Tab) (f : FD) {S : AS} (h : S.Ok) : ∀ k, (askK T f S k).Ok
  | 0 => h
  | k + 1 => askS_ok T f k (askK_ok T f h k)
theorem stepS_ok {T : Tab} (hT : TOk T) (f : FD) {S : AS} (h : S.Ok) : (stepS T f S).Ok := askK_ok T f (goK_ok T f h (fun n hn => (hT.tl n hn).2) _ (Nat.le_refl _)) _
theorem step_nil (v : Value) (f : FD) (w : World) : Calls Try.prog 30 #[.pointer none, .agg #[.int .u32 (f.cl : Int), .int .u32 (f.no : Int), .int .u32 (f.re : Int), .int .u32 (f.ak : Int), .int .u32 (f.ca : Int), .int .u32 (f.rq : Int)]] w fun e w' => e = .returned od0.val ∧ Below w.heap.size w w' := by
  go_enter Try.func30, Try.ntmps30
  go_wp2_with fail
  exact bodyPost_ret (v := .agg #[.int .u32 0, .int .u32 0, .int .u32 0, .int .u32 0]) (by simp [results, Try.results30, go_sem]) rfl ⟨rfl, by
    refine Below.alloc ?_ ?_ _
    · exact tb_alloc_below _ _
    · exact (tb_alloc_below w _).size⟩
set_option maxRecDepth 100000 in
set_option maxHeartbeats 8000000 in
theorem step_any (u : Au) (S : AS) (f : FD) (w : World) (h : AutoAt w u S) (hf : f.Ok) (hT : TOk u.T) (hS : S.Ok) :
    Calls Try.prog 30 #[.pointer (some ⟨u.g, 0, none⟩), .agg #[.int .u32 (f.cl : Int), .int .u32 (f.no : Int), .int .u32 (f.re : Int), .int .u32 (f.ak : Int), .int .u32 (f.ca : Int), .int .u32 (f.rq : Int)]] w fun e w' => e = .returned (orderS u.T f (stepS u.T f S)).val ∧ AutoAt w' u (stepS u.T f S) ∧ Only u.M w w' := by
  obtain ⟨sc, hvs, hs1, hs2, _⟩ := h.rs
  have HTOK := Lib.hid hT
  have hN := hT.n
  have HGL : Hid (u.g < w.heap.size) := heap_lt h.obj
  have HB0 : Hid (u.w0.heap.size ≤ w.heap.size) := h.bel.size
  obtain ⟨w1, hw1, k0, k1, k2, hz1, hb1⟩ := alloc3 w #[.int .u32 (f.cl : Int), .int .u32 (f.no : Int), .int .u32 (f.re : Int), .int .u32 (f.ak : Int), .int .u32 (f.ca : Int), .int .u32 (f.rq : Int)] #[.int .u32 0, .int .u32 0, .int .u32 0, .int .u32 0] #[.pointer (some ⟨u.g, 0, none⟩), .int .u32 (f.cl : Int), .int .u32 (f.no : Int), .int .u32 (f.re : Int), .int .u32 (f.ak : Int), .int .u32 (f.ca : Int), .int .u32 (f.rq : Int)] 85 35 116
  have A1 : Hid (AutoAt w1 u S) := h.below hb1
  have K0 := Lib.hid k0; have K1 := Lib.hid k1; have K2 := Lib.hid k2; have B1 := Lib.hid hb1; have HW1 := Lib.hid hw1; have Z1 := Lib.hid hz1
  have HG : Hid (∀ W S', AutoAt W u S' → W.cell? ⟨u.g, 4, none⟩ = some (.slice (some ⟨u.rb, 0, none⟩) u.T.rts.length sc)) := fun W S' hW => by rw [← hvs]; exact cell_row (j := 4) hW.obj rfl
  have HS := Lib.hid hS; have HF := Lib.hid hf
  unfold maxLen at hs2
  have HNE : Hid (u.rb < w.heap.size ∧ u.pb < w.heap.size) := ⟨h.rlt, h.pl⟩
  have HRL : Hid (∀ n, n < u.T.rts.length → (u.T.rts.getD n rt0).tr.length ≤ 24) := fun n hn => (hT.tl n hn).2
  clear hw1 k0 k1 k2 hz1 hb1 hvs h hT hS hf
  generalize hlen : u.T.rts.length = m at *
  have HLEN := Lib.hid hlen
  clear hlen
  have HK : Hid (∀ W, Only u.M w1 W → W.heap[w.heap.size + 1]? = some (.cells #[.int .u32 0, .int .u32 0, .int .u32 0, .int .u32 0] 35 (0, 0)) ∧ W.heap[w.heap.size + 2]? = some (.cells #[.pointer (some ⟨u.g, 0, none⟩), .int .u32 (f.cl : Int), .int .u32 (f.no : Int), .int .u32 (f.re : Int), .int .u32 (f.ak : Int), .int .u32 (f.ca : Int), .int .u32 (f.rq : Int)] 116 (0, 0))) := fun W hW =>
    ⟨(hW.block _ (heap_lt K1.out) (fun e => by have := HNE.out; rcases e with e | e <;> omega)).trans K1.out, (hW.block _ (heap_lt K2.out) (fun e => by have := HNE.out; rcases e with e | e <;> omega)).trans K2.out⟩
  have HFIN : Hid (∀ W, Only u.M w1 W → Only u.M w W) := fun W hW => (Only.of_below _ B1.out).trans hW
  have SG : Hid (stepS u.T f S = askK u.T f (goK u.T f S m) m) := by show _ = _; unfold stepS; rw [HLEN.out]
  obtain ⟨od, hod⟩ : ∃ od, od = orderS u.T f (stepS u.T f S) := ⟨_, rfl⟩
  rw [← hod]
  have HOD := Lib.hid hod
  clear hod
  unfold OD.val
  obtain ⟨fb, hfb⟩ : ∃ fb, fb = w.heap.size := ⟨_, rfl⟩
  have HFB := Lib.hid hfb
  rw [← hfb] at K0 K1 K2 HK
  go_enter Try.func30, Try.ntmps30
  go_upto_region 4 with fail
  rw [← HW1.out, ← hfb]
  clear hfb
  obtain ⟨rsb, hrsb⟩ : ∃ r, r = fb + 1 := ⟨_, rfl⟩
  rw [← hrsb]
  obtain ⟨xb, hxb⟩ : ∃ r, r = rsb + 1 := ⟨_, rfl⟩
  rw [← hxb]
  rw [← hrsb, show fb + 2 = xb by omega] at HK
  rw [show fb + 2 = xb by omega] at K2
  have HSZ : Hid (w.heap.size ≤ rsb ∧ rsb ≠ u.rb ∧ rsb ≠ u.pb ∧ rsb ≠ u.g) := by
    have := HFB.out; have := HNE.out; have := HGL.out
    exact ⟨by omega, by omega, by omega, by omega⟩
  clear hrsb hxb K0 K1
  have O1 : Hid (Only u.M w1 w1) := Only.refl _ _
  have c0 := cell_row (j := 0) (HK.out w1 O1.out).2 rfl
  have c1 := cell_row (j := 1) (HK.out w1 O1.out).2 rfl
  have c2 := cell_row (j := 2) (HK.out w1 O1.out).2 rfl
  have c3 := cell_row (j := 3) (HK.out w1 O1.out).2 rfl
  have c4 := cell_row (j := 4) (HK.out w1 O1.out).2 rfl
  have c5 := cell_row (j := 5) (HK.out w1 O1.out).2 rfl
  have c6 := cell_row (j := 6) (HK.out w1 O1.out).2 rfl
  have l0 := heap_lt (HK.out w1 O1.out).2
  go_wp2_with fail
  clear c0 c1 c2 c3 c4 c5 c6 l0
  have eg1 : ∀ args w, (callFunc 47 args).run Try.prog w = .ok (.enter 47 args) w := enters_of Try.func47 (by kernel_rfl) rfl
  have eg2 : ∀ args w, (callFunc 48 args).run Try.prog w = .ok (.enter 48 args) w := enters_of Try.func48 (by kernel_rfl) rfl
  have ix0 : ∀ w : World, (Instr.index 118 (.agg #[.func (.func 47) #[.agg #[.pointer (some ⟨u.g, 0, none⟩), .int .u32 (f.cl : Int), .int .u32 (f.no : Int), .int .u32 (f.re : Int), .int .u32 (f.ak : Int), .int .u32 (f.ca : Int), .int .u32 (f.rq : Int)]] #[], .func (.func 48) #[.agg #[.pointer (some ⟨u.g, 0, none⟩), .int .u32 (f.cl : Int), .int .u32 (f.no : Int), .int .u32 (f.re : Int), .int .u32 (f.ak : Int), .int .u32 (f.ca : Int), .int .u32 (f.rq : Int)]] #[]]) (.int .i64 0)).run Try.prog w = .ok (.func (.func 47) #[.agg #[.pointer (some ⟨u.g, 0, none⟩), .int .u32 (f.cl : Int), .int .u32 (f.no : Int), .int .u32 (f.re : Int), .int .u32 (f.ak : Int), .int .u32 (f.ca : Int), .int .u32 (f.rq : Int)]] #[]) w := fun _ => by kernel_rfl
  have ix1 : ∀ w : World, (Instr.index 118 (.agg #[.func (.func 47) #[.agg #[.pointer (some ⟨u.g, 0, none⟩), .int .u32 (f.cl : Int), .int .u32 (f.no : Int), .int .u32 (f.re : Int), .int .u32 (f.ak : Int), .int .u32 (f.ca : Int), .int .u32 (f.rq : Int)]] #[], .func (.func 48) #[.agg #[.pointer (some ⟨u.g, 0, none⟩), .int .u32 (f.cl : Int), .int .u32 (f.no : Int), .int .u32 (f.re : Int), .int .u32 (f.ak : Int), .int .u32 (f.ca : Int), .int .u32 (f.rq : Int)]] #[]]) (.int .i64 1)).run Try.prog w = .ok (.func (.func 48) #[.agg #[.pointer (some ⟨u.g, 0, none⟩), .int .u32 (f.cl : Int), .int .u32 (f.no : Int), .int .u32 (f.re : Int), .int .u32 (f.ak : Int), .int .u32 (f.ca : Int), .int .u32 (f.rq : Int)]] #[]) w := fun _ => by kernel_rfl
  have EG1 := Lib.hid eg1; have EG2 := Lib.hid eg2; have IX0 := Lib.hid ix0; have IX1 := Lib.hid ix1
  clear eg1 eg2 ix0 ix1
  go_loopw [20] (fun i wr => ∃ q : Nat, q ≤ 2 ∧ i = .int .i64 q ∧ AutoAt wr u (if q = 0 then S else if q = 1 then goK u.T f S m else stepS u.T f S) ∧ Only u.M w1 wr) (fun i _ => 2 - (intOf i).toNat)
  case atStart => exact ⟨0, by omega, rfl, A1.out, O1.out⟩
  case round =>
    obtain ⟨q, hq, rfl, ha, ho⟩ := hrel
    have A2 := Lib.hid ha; have O2 := Lib.hid ho
    clear ha ho A1 O1
    obtain ⟨w2, rfl⟩ : ∃ w2 : World, w2 = wr := ⟨_, rfl⟩
    have hq3 : q = 0 ∨ q = 1 ∨ q = 2 := by omega
    rcases hq3 with rfl | rfl | rfl
    · rw [show ((0 : Nat) : Int) = 0 from rfl]
      have A20 : Hid (AutoAt w2 u (goK u.T f S 0)) := A2.out
      clear A2
      have g4 := HG.out _ _ A20.out
      have lg := heap_lt A20.out.obj
      have ix0 := IX0.out
      go_wp2_with fail
      clear g4 lg ix0
      go_loopw [28] (fun i wr => ∃ k : Nat, k ≤ m ∧ i = .int .i64 k ∧ AutoAt wr u (goK u.T f S k) ∧ Only u.M w1 wr) (fun i _ => m - (intOf i).toNat)
      case atStart => exact ⟨0, Nat.zero_le _, rfl, A20.out, O2.out⟩
      case round =>
        clear A20 O2
        obtain ⟨k, hk, rfl, ha, ho⟩ := hrel
        have A3 := Lib.hid ha; have O3 := Lib.hid ho
        clear ha ho
        obtain ⟨w3, rfl⟩ : ∃ w3 : World, w3 = wr := ⟨_, rfl⟩
        by_cases hlt : k < m
        · have HC := Lib.hid (goes_any u (goK u.T f S k) f k w3 A3.out HF.out HTOK.out (goK_ok u.T f HS.out (by rw [HLEN.out]; exact HRL.out) k (by rw [HLEN.out]; omega)) (by rw [HLEN.out]; exact hlt))
          have eg := EG1.out
          go_wp2_with fail
          clear eg
          refine HC.out.mono ?_
          rintro e w4 ⟨rfl, ha4, ho4⟩
          have A4 : Hid (AutoAt w4 u (goK u.T f S (k + 1))) := ha4
          have O4 := Lib.hid (O3.out.trans ho4.toM)
          clear ha4 ho4
          go_wp2_with fail
          go_roundw
          case rel => exact ⟨k + 1, by omega, by go_num, A4.out, O4.out⟩
          case measure => simp [intOf]; omega
        · obtain rfl : k = m := by omega
          go_wp2_with fail
          go_roundw
          case rel => exact ⟨1, by omega, by go_num, A3.out, O3.out⟩
          case measure => simp [intOf]
    · rw [show ((1 : Nat) : Int) = 1 from rfl]
      have A20 : Hid (AutoAt w2 u (askK u.T f (goK u.T f S m) 0)) := A2.out
      clear A2
      have g4 := HG.out _ _ A20.out
      have lg := heap_lt A20.out.obj
      have ix1 := IX1.out
      go_wp2_with fail
      clear g4 lg ix1
      go_loopw [28] (fun i wr => ∃ k : Nat, k ≤ m ∧ i = .int .i64 k ∧ AutoAt wr u (askK u.T f (goK u.T f S m) k) ∧ Only u.M w1 wr) (fun i _ => m - (intOf i).toNat)
      case atStart => exact ⟨0, Nat.zero_le _, rfl, A20.out, O2.out⟩
      case round =>
        clear A20 O2
        obtain ⟨k, hk, rfl, ha, ho⟩ := hrel
        have A3 := Lib.hid ha; have O3 := Lib.hid ho
        clear ha ho
        obtain ⟨w3, rfl⟩ : ∃ w3 : World, w3 = wr := ⟨_, rfl⟩
        by_cases hlt : k < m
        · have HC := Lib.hid (asks_any u (askK u.T f (goK u.T f S m) k) f k w3 A3.out HF.out HTOK.out (askK_ok u.T f (goK_ok u.T f HS.out (by rw [HLEN.out]; exact HRL.out) m (by rw [HLEN.out]; omega)) k) (by rw [HLEN.out]; exact hlt))
          have eg := EG2.out
          go_wp2_with fail
          clear eg
          refine HC.out.mono ?_
          rintro e w4 ⟨rfl, ha4, ho4⟩
          have A4 : Hid (AutoAt w4 u (askK u.T f (goK u.T f S m) (k + 1))) := ha4
          have O4 := Lib.hid (O3.out.trans ho4)
          clear ha4 ho4
          go_wp2_with fail
          go_roundw
          case rel => exact ⟨k + 1, by omega, by go_num, A4.out, O4.out⟩
          case measure => simp [intOf]; omega
        · obtain rfl : k = m := by omega
          go_wp2_with fail
          go_roundw
          case rel => exact ⟨2, by omega, by go_num, by rw [← SG.out] at A3; exact A3.out, O3.out⟩
          case measure => simp [intOf]
    · rw [show ((2 : Nat) : Int) = 2 from rfl]
      have A3 : Hid (AutoAt w2 u (stepS u.T f S)) := A2.out
      clear A2
      have HC := Lib.hid (order_any u (stepS u.T f S) f w2 A3.out HF.out HTOK.out (stepS_ok HTOK.out f HS.out))
      rw [← HOD.out] at HC
      unfold OD.val at HC
      have c0 := cell_row (j := 0) (HK.out w2 O2.out).2 rfl
      have c1 := cell_row (j := 1) (HK.out w2 O2.out).2 rfl
      have c2 := cell_row (j := 2) (HK.out w2 O2.out).2 rfl
      have c3 := cell_row (j := 3) (HK.out w2 O2.out).2 rfl
      have c4 := cell_row (j := 4) (HK.out w2 O2.out).2 rfl
      have c5 := cell_row (j := 5) (HK.out w2 O2.out).2 rfl
      have c6 := cell_row (j := 6) (HK.out w2 O2.out).2 rfl
      have l0 := heap_lt (HK.out w2 O2.out).2
      go_wp2_with fail
      refine HC.out.mono ?_
      rintro e w4 ⟨rfl, hb4⟩
      have A4 := Lib.hid (A3.out.below hb4); have O4 := Lib.hid (O2.out.trans (Only.of_below _ hb4))
      clear hb4
      clear c0 c1 c2 c3 c4 c5 c6 l0
      have v0 := cell_row (j := 0) (HK.out w4 O4.out).1 rfl
      have v1 := cell_row (j := 1) (HK.out w4 O4.out).1 rfl
      have v2 := cell_row (j := 2) (HK.out w4 O4.out).1 rfl
      have v3 := cell_row (j := 3) (HK.out w4 O4.out).1 rfl
      have y0 : w4.frozen? ⟨rsb, 0, none⟩ = false := frozen_of_row _ _ _ _ _ (HK.out w4 O4.out).1
      have y1 : w4.frozen? ⟨rsb, 1, none⟩ = false := frozen_of_row _ _ _ _ _ (HK.out w4 O4.out).1
      have y2 : w4.frozen? ⟨rsb, 2, none⟩ = false := frozen_of_row _ _ _ _ _ (HK.out w4 O4.out).1
      have y3 : w4.frozen? ⟨rsb, 3, none⟩ = false := frozen_of_row _ _ _ _ _ (HK.out w4 O4.out).1
      have lv := heap_lt (HK.out w4 O4.out).1
      go_wp2_with fail
      have HSET : ∀ (W : World) (j : Nat) (x : Value), AutoAt W u (stepS u.T f S) ∧ Only u.M w W → AutoAt (W.setCell ⟨rsb, j, none⟩ x) u (stepS u.T f S) ∧ Only u.M w (W.setCell ⟨rsb, j, none⟩ x) := fun W j x hW => by
        have hz := HSZ.out
        refine ⟨?_, hW.2.set _ _ (.inl hz.1)⟩
        obtain ⟨c, k1, k2, k3, k4⟩ := hW.1.rs
        have hne : ∀ b, b ≠ rsb → (W.setCell ⟨rsb, j, none⟩ x).heap[b]? = W.heap[b]? := fun b hb => heap_setCell_other _ _ _ _ hb
        have hs : (W.setCell ⟨rsb, j, none⟩ x).heap.size = W.heap.size := by simp [World.setCell]
        exact ⟨(hne _ (Ne.symm hz.2.2.2)).trans hW.1.obj, hW.1.tp, hW.1.tr, hW.1.bel.setCell (p := ⟨rsb, j, none⟩) (by have := HB0.out; have := hz.1; show u.w0.heap.size ≤ rsb; omega) _, ⟨c, k1, k2, k3, k4.same (hne _ (Ne.symm hz.2.1))⟩, hW.1.ps.same (fun _ => hne _ (Ne.symm hz.2.2.1)), hW.1.gB, hW.1.rB, hW.1.pB, hW.1.gr, hW.1.gp, hW.1.rp, by rw [hs]; exact hW.1.pl⟩
      exact bodyPost_ret (v := .agg #[.int .u32 (od.pr : Int), .int .u32 (od.no : Int), .int .u32 (od.re : Int), .int .u32 (od.lo : Int)]) (by simp [results, Try.results30, go_sem, v0, v1, v2, v3, lv]) rfl ⟨rfl, HSET _ _ _ (HSET _ _ _ (HSET _ _ _ (HSET _ _ _ ⟨A4.out, HFIN.out _ O4.out⟩)))⟩
end Go.Proofs.Ytnjeiigdfdjccaa
