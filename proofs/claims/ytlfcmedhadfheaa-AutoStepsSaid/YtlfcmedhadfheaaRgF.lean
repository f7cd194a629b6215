/- The document's automaton: asked. -/
import Derived.Test.YtlfcmedhadfheaaRgE
import Derived.Deep.Cut
namespace Go.Proofs.Ytlfcmedhadfheaa
open Go.RowKit
set_option linter.unusedVariables false
set_option linter.unusedSimpArgs false
theorem rall_take {α : Type} {l : List α} {m : Nat} {d : α} {p : α → Bool} (h : m < l.length) : (l.take (m + 1)).all p = ((l.take m).all p && p (l.getD m d)) := by
  rw [List.take_succ_eq_append_getElem h, List.all_append, List.getD_eq_getElem?_getD, List.getElem?_eq_getElem h]
  simp
theorem UnderP.setC {w : World} {u : Rf} {S : AS} {ub lb : Nat → Nat} (h : R27At w u S ub lb) (j v : Nat) :
    UnderP u S ub lb w ⟨S.R, fun i => if i = j then v else S.C i⟩ (w.setCell ⟨u.cb, j, none⟩ (.int .i64 (v : Int))) := by
  have ho : Only (fun b => b = u.cb) w (w.setCell ⟨u.cb, j, none⟩ (.int .i64 (v : Int))) := (Only.refl _ w).set _ _ (.inr rfl)
  refine ⟨ub, lb, ⟨(ho.block _ (heap_lt h.obj) h.gc).trans h.obj, h.tp, h.tr, h.bel.trans (ho.below h.bel.size (fun i hi hm => by have := h.cB; have := h.B0; omega)), h.rs.other h.rc _, (h.cs.set (i := j) _).congr (fun i hi => ?_), fun n hn h3 => ?_, h.nf, h.B0, h.gB, h.rB, h.cB, h.gr, h.gc, h.rc, h.du, h.dd⟩, ho.mono (fun i _ hi => .inr (.inl hi)), fun b hb => .inl hb⟩
  · show (if i = j then _ else _) = Value.int .i64 ((if i = j then v else S.C i : Nat) : Int)
    split <;> rfl
  · have a := h.us n hn h3
    have d := h.du n hn h3
    exact ⟨a.1.other d.c1 _, a.2.other d.c2 _⟩
set_option maxRecDepth 100000 in
set_option maxHeartbeats 8000000 in
theorem asked_any {f : FD} {w : World} {u : Rf} {S : AS} {ub lb : Nat → Nat} (h : R27At w u S ub lb) (hf : f.Ok) (hT : TOk u.T) {n : Nat} (hn : n < u.T.rts.length) :
    Calls Try.prog 44 #[.pointer (some ⟨u.g, 0, none⟩), .int .i64 (n : Int), .agg #[.int .u32 (f.cl : Int), .int .u32 (f.no : Int), .int .u32 (f.re : Int), .int .u32 (f.ak : Int), .int .u32 (f.ca : Int), .int .u32 (f.rq : Int)]] w fun e w' => e = .returned (.tuple #[]) ∧ UnderP u S ub lb w (askS u.T f S n) w' := by
  have H := Lib.hid h; have HF := Lib.hid hf; have HTK := Lib.hid hT; have HN := Lib.hid hn
  have hN16 := hT.n; have hP12 := hT.p
  obtain ⟨ra, rc, C0, hvr, hrl, hrc, _⟩ := h.tr.at_
  obtain ⟨⟨pta, ptc, hvp, hptl, hptm, _⟩, _⟩ := id h.tp
  have hrt := h.tr
  rw [hvr] at hrt
  have HTP : Hid (IntsAt u.w0 (.slice pta u.T.pts.length ptc) u.T.pts) := hvp ▸ h.tp
  obtain ⟨b, off, C, rfl, hb, hc, hR⟩ := hrt.cells hn
  obtain ⟨A, hA⟩ : ∃ A, A = u.T.rts.getD n rt0 := ⟨_, rfl⟩
  have htl := hT.tl n hn
  have HTRL := Lib.hid (hT.tr n hn); have HPP := Lib.hid (hT.pp n hn); have HCON := Lib.hid (hT.con n hn)
  have hcl := hT.cl n hn; have hpl := hT.pl n hn
  have HPT := Lib.hid hT.pt
  rw [← hA] at hR htl HTRL HPP HCON hcl hpl
  obtain ⟨⟨ta, tc, ht, ht1, ht2, _⟩, _⟩ := id hR.tr
  obtain ⟨⟨pa, pc, hp, hp1, hp2, _⟩, _⟩ := id hR.pts
  obtain ⟨⟨ca, cc, hcn, hc1, hc2, _⟩, _⟩ := id hR.con
  have x0 := (h.bel.cell hb).trans (hc 0 (by omega)); have x1 := (h.bel.cell hb).trans (hc 1 (by omega)); have x2 := (h.bel.cell hb).trans (hc 2 (by omega)); have x3 := (h.bel.cell hb).trans (hc 3 (by omega)); have x4 := (h.bel.cell hb).trans (hc 4 (by omega)); have x5 := (h.bel.cell hb).trans (hc 5 (by omega))
  rw [Nat.add_zero] at x0
  rw [hR.sig] at x0; rw [ht] at x1; rw [hp] at x2; rw [hR.app] at x3; rw [hcn] at x4; rw [hR.hold] at x5
  have HTR : Hid (IntsAt u.w0 (.slice ta A.tr.length tc) A.tr) := ht ▸ hR.tr
  have HPS : Hid (PtsAt u.w0 (.slice pa A.pts.length pc) A.pts) := hp ▸ hR.pts
  have HCN : Hid (IntsAt u.w0 (.slice ca A.con.length cc) A.con) := hcn ▸ hR.con
  obtain ⟨tb, tof, rfl, htb, _⟩ := HTR.out.cell htl.1
  obtain ⟨w1, hw1⟩ : ∃ w1, w1 = w.alloc (.cells #[.int .u32 (f.cl : Int), .int .u32 (f.no : Int), .int .u32 (f.re : Int), .int .u32 (f.ak : Int), .int .u32 (f.ca : Int), .int .u32 (f.rq : Int)] 38) := ⟨_, rfl⟩
  have B1 : Hid (Below w.heap.size w w1) := by rw [hw1]; exact tb_alloc_below _ _
  have K1 : Hid (w1.heap[w.heap.size]? = some (.cells #[.int .u32 (f.cl : Int), .int .u32 (f.no : Int), .int .u32 (f.re : Int), .int .u32 (f.ak : Int), .int .u32 (f.ca : Int), .int .u32 (f.rq : Int)] 38 (0, 0))) := by rw [hw1]; exact heap_alloc_new _ _
  obtain ⟨w2, hw2⟩ : ∃ w2, w2 = w1.alloc (.cells #[.int .i64 A.sig, .slice (some ⟨tb, tof, none⟩) A.tr.length tc, .slice pa A.pts.length pc, .int .i64 A.app, .slice ca A.con.length cc, .int .u16 (A.hold : Int)] 46) := ⟨_, rfl⟩
  have B12 : Hid (Below w1.heap.size w1 w2) := by rw [hw2]; exact tb_alloc_below _ _
  have KA2 : Hid (w2.heap[w1.heap.size]? = some (.cells #[.int .i64 A.sig, .slice (some ⟨tb, tof, none⟩) A.tr.length tc, .slice pa A.pts.length pc, .int .i64 A.app, .slice ca A.con.length cc, .int .u16 (A.hold : Int)] 46 (0, 0))) := by rw [hw2]; exact heap_alloc_new _ _
  have KF2 := Lib.hid (tb_kept K1.out B12.out)
  have BW2 : Hid (Below w.heap.size w w2) := B1.out.trans (B12.out.mono B1.out.size)
  have A2 : Hid (R27At w2 u S ub lb) := h.below BW2.out
  have HW1 := Lib.hid hw1; have HW2 := Lib.hid hw2
  have x0 := (B1.out.cell (Nat.lt_of_lt_of_le hb h.bel.size)).trans x0; have x1 := (B1.out.cell (Nat.lt_of_lt_of_le hb h.bel.size)).trans x1; have x2 := (B1.out.cell (Nat.lt_of_lt_of_le hb h.bel.size)).trans x2; have x3 := (B1.out.cell (Nat.lt_of_lt_of_le hb h.bel.size)).trans x3; have x4 := (B1.out.cell (Nat.lt_of_lt_of_le hb h.bel.size)).trans x4; have x5 := (B1.out.cell (Nat.lt_of_lt_of_le hb h.bel.size)).trans x5
  have lr : b < w1.heap.size := Nat.lt_of_lt_of_le hb (Nat.le_trans h.bel.size B1.out.size)
  have HOW : Hid (∀ b, Own27 u S ub lb b → b < w.heap.size) := fun b hb => h.own_lt hb
  have HZ : Hid (w.heap.size ≤ w1.heap.size) := B1.out.size
  have HK1 := tb_kept h.obj B1.out
  rw [hvr] at HK1
  have g3 := cell_row (j := 3) HK1 rfl
  have lg := heap_lt HK1
  have HVP := Lib.hid hvp; have HVR := Lib.hid hvr
  unfold maxLen at ht2 hp2 hc2 hrc hptm
  obtain ⟨fb, hfb⟩ : ∃ b, b = w.heap.size := ⟨_, rfl⟩
  obtain ⟨ab, hab⟩ : ∃ b, b = w1.heap.size := ⟨_, rfl⟩
  have HFB := Lib.hid hfb; have HAB := Lib.hid hab; have HA := Lib.hid hA
  rw [← hfb] at KF2
  rw [← hab] at KA2
  have HG : Hid (∀ W S' u' l', R27At W u S' u' l' → W.cell? ⟨u.g, 1, none⟩ = some (.slice pta u.T.pts.length ptc) ∧ W.cell? ⟨u.g, 3, none⟩ = some (.slice (some ⟨b, off, none⟩) u.T.rts.length rc) ∧ W.cell? ⟨u.g, 4, none⟩ = some (.slice (some ⟨u.rb, 0, none⟩) u.T.rts.length u.T.rts.length) ∧ W.cell? ⟨u.g, 5, none⟩ = some (.slice (some ⟨u.cb, 0, none⟩) u.T.pts.length u.T.pts.length) ∧ u.g < W.heap.size) := fun W S' u' l' hW =>
    ⟨by rw [← HVP.out]; exact cell_row (j := 1) hW.obj rfl, by rw [← HVR.out]; exact cell_row (j := 3) hW.obj rfl, cell_row (j := 4) hW.obj rfl, cell_row (j := 5) hW.obj rfl, heap_lt hW.obj⟩
  obtain ⟨F0, hF0⟩ : ∃ F, F = ((f.ak.testBit n || f.rq == n + 1) && (S.R n).ph == 0) := ⟨_, rfl⟩
  have HAO : Hid (askOk u.T f S n = (F0 && ((A.con.all fun k => (S.R k.toNat).ph == 0) && ((A.tr.all fun x => bt f.cl x) && (A.pts.all fun p => S.C p.1.toNat == needP p || bt f.cl (u.T.pts.getD p.1.toNat 0)))))) := by show _ = _; rw [hF0, hA]; rfl
  have HF0 := Lib.hid hF0
  clear hw1 hw2 hfb hab h hf hT hrt hc hR hb htb ht hp hcn HK1 hvr hvp K1 B1 B12 hA hF0
  go_enter Try.func44, Try.ntmps44
  go_upto_region 1 with fail
  rw [← HW1.out, ← HFB.out]
  go_upto_region 2 with fail
  rw [← HW2.out, ← HAB.out]
  clear x0 x1 x2 x3 x4 x5 lr g3 lg HW1 HW2
  go_cut [7] from 21 (fun o wx => o = .bool F0 ∧ w2 = wx)
  case first =>
    obtain ⟨-, -, g4, -, lg⟩ := HG.out _ _ _ _ A2.out
    have p0 : w2.cell? ⟨u.rb, n * 4, none⟩ = some (.int .i64 ((S.R n).ph : Int)) := by
      have := A2.out.rs.cell (i := n * 4) (by omega)
      rw [r27V_0] at this; exact this
    have lr := A2.out.rs.lt
    have f3 := cell_row (j := 3) KF2.out rfl; have f5 := cell_row (j := 5) KF2.out rfl
    have lf := heap_lt KF2.out
    have HON := Lib.hid (ron_any f.ak n w2 HF.out.ak (by omega))
    have hrq := HF.out.rq
    have HRQ : Hid (((f.rq : Int) == (n : Int) + 1) = (f.rq == n + 1)) := by
      show _ = _
      rw [Bool.eq_iff_iff, beq_iff_eq, beq_iff_eq]; omega
    generalize f.ak.testBit n = a1 at *
    generalize (f.rq == n + 1) = a2 at *
    have HPH : Hid ((((S.R n).ph : Int) == 0) = ((S.R n).ph == 0)) := by
      show _ = _
      rw [Bool.eq_iff_iff, beq_iff_eq, beq_iff_eq]; omega
    generalize (S.R n).ph = ph at *
    generalize (ph == 0) = a3 at *
    go_wp2_with fail
    refine HON.out.mono ?_
    rintro e w3 ⟨rfl, rfl⟩
    clear HON
    have tp := HPH.out
    have tq := HRQ.out
    cases a1
    case true =>
      cases a3
      case true =>
        go_wp2_with fail
        go_meet
        case rel => exact ⟨congrArg Value.bool HF0.out.symm, rfl⟩
      case false =>
        go_wp2_with fail
        go_meet
        case rel => exact ⟨congrArg Value.bool HF0.out.symm, rfl⟩
    case false =>
      cases a2
      case false =>
        go_wp2_with fail
        go_meet
        case rel => exact ⟨congrArg Value.bool HF0.out.symm, rfl⟩
      case true =>
        cases a3
        case true =>
          go_wp2_with fail
          go_meet
          case rel => exact ⟨congrArg Value.bool HF0.out.symm, rfl⟩
        case false =>
          go_wp2_with fail
          go_meet
          case rel => exact ⟨congrArg Value.bool HF0.out.symm, rfl⟩
  case rest =>
    obtain ⟨rfl, rfl⟩ := hcut
    obtain ⟨P1, hP1⟩ : ∃ P : Int → Bool, P = fun k => (S.R k.toNat).ph == 0 := ⟨_, rfl⟩
    obtain ⟨P3, hP3⟩ : ∃ P : Int × Bool → Bool, P = fun p => S.C p.1.toNat == needP p || bt f.cl (u.T.pts.getD p.1.toNat 0) := ⟨_, rfl⟩
    rw [← hP1, ← hP3] at HAO
    have HP1 := Lib.hid hP1; have HP3 := Lib.hid hP3
    clear hP1 hP3
    go_wp2_with fail
    go_loopw [7, 8] (fun o i wr => ∃ k : Nat, k ≤ A.con.length ∧ o = .bool (F0 && (A.con.take k).all P1) ∧ i = .int .i64 k ∧ Below w2.heap.size w2 wr) (fun _ i _ => A.con.length - (intOf i).toNat)
    case atStart => exact ⟨0, Nat.zero_le _, by simp, rfl, Below.refl _ _⟩
    case round =>
      obtain ⟨k, hk, rfl, rfl, hb⟩ := hrel
      have B3 := Lib.hid hb
      have A3 := Lib.hid (A2.out.below hb)
      have a4 := cell_row (j := 4) (tb_kept KA2.out hb) rfl
      have la := heap_lt (tb_kept KA2.out hb)
      clear hb
      by_cases hlt : k < A.con.length
      case pos =>
        obtain ⟨cb, co, rfl, hcb, x0⟩ := (HCN.out.below A3.out.bel).cell hlt
        have hq0 := HCON.out k hlt
        obtain ⟨q, hq⟩ := Int.eq_ofNat_of_zero_le hq0.1
        have hqn : q < u.T.rts.length := by omega
        rw [hq] at x0
        have HNX : Hid ((F0 && (A.con.take (k + 1)).all P1) = ((F0 && (A.con.take k).all P1) && ((S.R q).ph == 0))) := by
          show _ = _
          rw [rall_take (d := (0 : Int)) hlt, hq, HP1.out, ← Bool.and_assoc]; rfl
        obtain ⟨-, -, g4, -, lg⟩ := HG.out _ _ _ _ A3.out
        have p0 : wr.cell? ⟨u.rb, q * 4, none⟩ = some (.int .i64 ((S.R q).ph : Int)) := by
          have := A3.out.rs.cell (i := q * 4) (by omega)
          rw [r27V_0] at this; exact this
        have lr := A3.out.rs.lt
        have HPH : Hid ((((S.R q).ph : Int) == 0) = ((S.R q).ph == 0)) := by
          show _ = _
          rw [Bool.eq_iff_iff, beq_iff_eq, beq_iff_eq]; omega
        generalize (F0 && (A.con.take k).all P1) = g at *
        generalize hx1 : (F0 && (A.con.take (k + 1)).all P1) = g1 at *
        have HX1 := Lib.hid hx1
        generalize (S.R q).ph = ph at *
        generalize (ph == 0) = e at *
        have tp := HPH.out
        clear hq0 hq hx1
        go_upto_region 6 with fail
        cases g
        case false =>
          go_quiet (fail)
          have B4 : Hid (Below w2.heap.size w2 (wr.drewN nq)) := B3.out.trans ((RG_drewN _ nq).mono B3.out.size)
          generalize wr.drewN nq = w4 at *
          clear a4 la x0 hcb g4 lg p0 lr tp
          go_wp2_with fail
          go_roundw
          case rel => exact ⟨k + 1, by omega, by rw [HX1.out]; exact congrArg Value.bool HNX.out.symm, by go_num, B4.out⟩
          case measure => simp [intOf]; omega
        case true =>
          cases e
          case false =>
            go_quiet (fail)
            have B4 : Hid (Below w2.heap.size w2 (wr.drewN nq)) := B3.out.trans ((RG_drewN _ nq).mono B3.out.size)
            generalize wr.drewN nq = w4 at *
            clear a4 la x0 hcb g4 lg p0 lr tp
            go_wp2_with fail
            go_roundw
            case rel => exact ⟨k + 1, by omega, by rw [HX1.out]; exact congrArg Value.bool HNX.out.symm, by go_num, B4.out⟩
            case measure => simp [intOf]; omega
          case true =>
            go_quiet (fail)
            have B4 : Hid (Below w2.heap.size w2 (wr.drewN nq)) := B3.out.trans ((RG_drewN _ nq).mono B3.out.size)
            generalize wr.drewN nq = w4 at *
            clear a4 la x0 hcb g4 lg p0 lr tp
            go_wp2_with fail
            go_roundw
            case rel => exact ⟨k + 1, by omega, by rw [HX1.out]; exact congrArg Value.bool HNX.out.symm, by go_num, B4.out⟩
            case measure => simp [intOf]; omega
      case neg =>
      obtain rfl : k = A.con.length := by omega
      rw [List.take_length]
      obtain ⟨G1, hG1⟩ : ∃ G, G = (F0 && A.con.all P1) := ⟨_, rfl⟩
      rw [← hG1]
      have HG1 := Lib.hid hG1
      clear hG1
      go_wp2_with fail
      clear a4 la
      go_loopw [7, 9] (fun o i wr => ∃ k : Nat, k ≤ A.tr.length ∧ o = .bool (G1 && (A.tr.take k).all (fun x => bt f.cl x)) ∧ i = .int .i64 k ∧ Below w2.heap.size w2 wr) (fun _ i _ => A.tr.length - (intOf i).toNat)
      case atStart => exact ⟨0, Nat.zero_le _, by simp, rfl, B3.out⟩
      case round =>
        clear B3 A3
        obtain ⟨k, hk, rfl, rfl, hb⟩ := hrel
        have B3 := Lib.hid hb
        have A3 := Lib.hid (A2.out.below hb)
        have a1 := cell_row (j := 1) (tb_kept KA2.out hb) rfl
        have la := heap_lt (tb_kept KA2.out hb)
        have f0 := cell_row (j := 0) (tb_kept KF2.out hb) rfl
        have lf := heap_lt (tb_kept KF2.out hb)
        clear hb
        by_cases hlt : k < A.tr.length
        case pos =>
          obtain ⟨_, _, ee, hcb, x0⟩ := (HTR.out.below A3.out.bel).cell hlt
          cases ee
          have hq0 := HTRL.out k hlt
          obtain ⟨q, hq⟩ := Int.eq_ofNat_of_zero_le hq0.1
          have hq32 : q < 32 := by omega
          rw [hq] at x0
          have HNX : Hid ((G1 && (A.tr.take (k + 1)).all (fun x => bt f.cl x)) = ((G1 && (A.tr.take k).all (fun x => bt f.cl x)) && f.cl.testBit q)) := by
            show _ = _
            rw [rall_take (d := (0 : Int)) hlt, hq, ← Bool.and_assoc]; rfl
          have HC := Lib.hid (ron_q f.cl q wr HF.out.cl hq32)
          generalize (G1 && (A.tr.take k).all (fun x => bt f.cl x)) = g at *
          generalize hx1 : (G1 && (A.tr.take (k + 1)).all (fun x => bt f.cl x)) = g1 at *
          have HX1 := Lib.hid hx1
          generalize f.cl.testBit q = e at *
          clear hq0 hq hx1
          go_upto_region 10 with fail
          cases g
          case false =>
            go_quiet ((go_at_call 65; (with_reducible exact HC.out _)))
            have B4 : Hid (Below w2.heap.size w2 (wr.drewN nq)) := B3.out.trans ((RG_drewN _ nq).mono B3.out.size)
            generalize wr.drewN nq = w4 at *
            clear a1 la x0 hcb f0 lf HC
            go_wp2_with fail
            go_roundw
            case rel => exact ⟨k + 1, by omega, by rw [HX1.out]; exact congrArg Value.bool HNX.out.symm, by go_num, B4.out⟩
            case measure => simp [intOf]; omega
          case true =>
            cases e
            case false =>
              go_quiet ((go_at_call 65; (with_reducible exact HC.out _)))
              have B4 : Hid (Below w2.heap.size w2 (wr.drewN nq)) := B3.out.trans ((RG_drewN _ nq).mono B3.out.size)
              generalize wr.drewN nq = w4 at *
              clear a1 la x0 hcb f0 lf HC
              go_wp2_with fail
              go_roundw
              case rel => exact ⟨k + 1, by omega, by rw [HX1.out]; exact congrArg Value.bool HNX.out.symm, by go_num, B4.out⟩
              case measure => simp [intOf]; omega
            case true =>
              go_quiet ((go_at_call 65; (with_reducible exact HC.out _)))
              have B4 : Hid (Below w2.heap.size w2 (wr.drewN nq)) := B3.out.trans ((RG_drewN _ nq).mono B3.out.size)
              generalize wr.drewN nq = w4 at *
              clear a1 la x0 hcb f0 lf HC
              go_wp2_with fail
              go_roundw
              case rel => exact ⟨k + 1, by omega, by rw [HX1.out]; exact congrArg Value.bool HNX.out.symm, by go_num, B4.out⟩
              case measure => simp [intOf]; omega
        case neg =>
        obtain rfl : k = A.tr.length := by omega
        rw [List.take_length]
        obtain ⟨G2, hG2⟩ : ∃ G, G = (G1 && A.tr.all (fun x => bt f.cl x)) := ⟨_, rfl⟩
        rw [← hG2]
        have HG2 := Lib.hid hG2
        clear hG2
        go_wp2_with fail
        clear a1 la f0 lf
        go_loopw [7, 10, 11] (fun o i _x wr => ∃ k : Nat, k ≤ A.pts.length ∧ o = .bool (G2 && (A.pts.take k).all P3) ∧ i = .int .i64 k ∧ Below w2.heap.size w2 wr) (fun _ i _ _ => A.pts.length - (intOf i).toNat)
        case atStart => exact ⟨0, Nat.zero_le _, by simp, rfl, B3.out⟩
        case round =>
          clear B3 A3
          obtain ⟨k, hk, rfl, rfl, hb⟩ := hrel
          have B3 := Lib.hid hb
          have A3 := Lib.hid (A2.out.below hb)
          have a2 := cell_row (j := 2) (tb_kept KA2.out hb) rfl
          have la := heap_lt (tb_kept KA2.out hb)
          clear hb
          by_cases hlt : k < A.pts.length
          case pos =>
            obtain ⟨pb, po, rfl, hpb, x0, x1⟩ := (HPS.out.below A3.out.bel).cell hlt
            have hpp := HPP.out k hlt
            have HNX : Hid ((G2 && (A.pts.take (k + 1)).all P3) = ((G2 && (A.pts.take k).all P3) && (S.C (A.pts.getD k (0, false)).1.toNat == needP (A.pts.getD k (0, false)) || bt f.cl (u.T.pts.getD (A.pts.getD k (0, false)).1.toNat 0)))) := by
              show _ = _
              rw [rall_take (d := ((0 : Int), false)) hlt, ← Bool.and_assoc, HP3.out]
            generalize hx1 : (G2 && (A.pts.take (k + 1)).all P3) = g1 at *
            have HX1 := Lib.hid hx1
            generalize (G2 && (A.pts.take k).all P3) = g at *
            generalize A.pts.getD k (0, false) = pp at *
            obtain ⟨y, z⟩ := pp
            simp only at x0 x1 hpp HNX
            obtain ⟨q, rfl⟩ := Int.eq_ofNat_of_zero_le hpp.1
            have hqP : q < u.T.pts.length := by omega
            have HNX : Hid (g1 = (g && (S.C q == needP ((q : Int), z) || bt f.cl (u.T.pts.getD q 0)))) := HNX.out
            obtain ⟨ptb, pto, rfl, hptb, y0⟩ := (HTP.out.below A3.out.bel).cell hqP
            have ht0 := HPT.out q hqP
            obtain ⟨t, ht⟩ := Int.eq_ofNat_of_zero_le ht0.1
            have ht32 : t < 32 := by omega
            rw [ht] at y0 HNX
            have HNX : Hid (g1 = (g && (S.C q == needP ((q : Int), z) || f.cl.testBit t))) := HNX.out
            obtain ⟨w5, hw5⟩ : ∃ W, W = wr.alloc (.cells #[.int .i64 (q : Int), .bool z] 67) := ⟨_, rfl⟩
            have B45 : Hid (Below wr.heap.size wr w5) := by rw [hw5]; exact tb_alloc_below _ _
            have KP5 : Hid (w5.heap[wr.heap.size]? = some (.cells #[.int .i64 (q : Int), .bool z] 67 (0, 0))) := by rw [hw5]; exact heap_alloc_new _ _
            have HW5 := Lib.hid hw5
            have y0 := (B45.out.cell hptb).trans y0
            have hptb : ptb < w5.heap.size := Nat.lt_of_lt_of_le hptb B45.out.size
            have A5 := Lib.hid (A3.out.below B45.out)
            have B5 : Hid (Below w2.heap.size w2 w5) := B3.out.trans (B45.out.mono B3.out.size)
            clear hw5 hpp ht0 ht hx1
            go_upto_region 15 with fail
            rw [← HW5.out]
            clear x0 x1 hpb HW5 a2 la
            obtain ⟨xb, hxb⟩ : ∃ ab, ab = wr.heap.size := ⟨_, rfl⟩
            rw [← hxb] at KP5 ⊢
            clear hxb
            obtain ⟨g1c, -, -, g5, lg⟩ := HG.out _ _ _ _ A5.out
            have c0 : w5.cell? ⟨u.cb, q, none⟩ = some (.int .i64 (S.C q : Int)) := A5.out.cs.cell hqP
            have lc := A5.out.cs.lt
            have f0 := cell_row (j := 0) (tb_kept KF2.out B5.out) rfl
            have lf := heap_lt (tb_kept KF2.out B5.out)
            have p0 := cell_row (j := 0) KP5.out rfl; have p1 := cell_row (j := 1) KP5.out rfl
            have lp := heap_lt KP5.out
            have HNE := Lib.hid (fun W => rneed_any ((q : Int), z) W)
            have HON := Lib.hid (fun W => ron_any f.cl t W HF.out.cl ht32)
            have HCQ : Hid (((S.C q : Int) == (needP ((q : Int), z) : Int)) = (S.C q == needP ((q : Int), z))) := by
              show _ = _
              rw [Bool.eq_iff_iff, beq_iff_eq, beq_iff_eq]; omega
            generalize needP ((q : Int), z) = nd at *
            generalize S.C q = cq at *
            generalize f.cl.testBit t = eb at *
            generalize (cq == nd) = b1 at *
            have tc := HCQ.out
            cases g
            case false =>
              go_quiet (fail)
              have B6 : Hid (Below w2.heap.size w2 (w5.drewN nq)) := B5.out.trans ((RG_drewN _ nq).mono B5.out.size)
              generalize w5.drewN nq = w6 at *
              clear y0 hptb g1c g5 lg c0 lc f0 lf p0 p1 lp tc KP5
              go_wp2_with fail
              go_roundw
              case rel => exact ⟨k + 1, by omega, by rw [HX1.out]; exact congrArg Value.bool HNX.out.symm, by go_num, B6.out⟩
              case measure => simp [intOf]; omega
            case true =>
              cases b1
              case true =>
                obtain ⟨U, fU, hUn, hU1, hU2⟩ := class_of (fun V => Below w5.heap.size w5 V) (W := w5.drew) ⟨rfl, rfl, rfl, Nat.le_refl _, fun _ _ => rfl⟩
                have HU1 := Lib.hid hU1; have HU2 := Lib.hid hU2
                clear hU1 hU2
                have hfm : (Try.prog).follows .mixedOrders = true := by kernel_rfl
                obtain ⟨qn, hd1⟩ : ∃ q : Nat, 1 ≤ q := ⟨1, Nat.le_refl _⟩
                have z0 := fun uu => ((HU1.out uu).cell hptb).trans y0
                have z1 := fun uu => ((HU1.out uu).cell lg).trans g1c
                have z2 := fun uu => ((HU1.out uu).cell lg).trans g5
                have z3 := fun uu => ((HU1.out uu).cell lc).trans c0
                have z4 := fun uu => ((HU1.out uu).cell lf).trans f0
                have z5 := fun uu => ((HU1.out uu).cell lp).trans p0
                have z6 := fun uu => ((HU1.out uu).cell lp).trans p1
                have h0_HR : ∀ uu, Calls Try.prog 68 #[.agg #[.int .i64 (q : Int), .bool z]] (fU uu) fun e w' => e = .returned (.int .i64 (nd : Int)) ∧ Below (fU uu).heap.size (fU uu) w' := fun uu => HNE.out (fU uu)
                have HR : Hid (∀ uu, CallsIn Fence.wide (qn - 1) Try.prog 68 #[.agg #[.int .i64 (q : Int), .bool z]] (fU uu) fun e w' => e = .returned (.int .i64 (nd : Int)) ∧ ∃ uu', w' = fU uu') := fun uu => (callsIn_wide.2 (h0_HR uu)).mono (fun e w' ⟨he, hb⟩ => ⟨he, HU2.out _ ((HU1.out uu).trans (hb.mono (HU1.out uu).size))⟩)
                have hf_HR : Fence.wide.fn 68 := trivial
                clear h0_HR
                have h0_HR2 : ∀ uu, Calls Try.prog 65 #[.int .u32 (f.cl : Int), .int .i64 (t : Int)] (fU uu) fun e w' => e = .returned (.bool eb) ∧ Below (fU uu).heap.size (fU uu) w' := fun uu => (HON.out (fU uu)).mono (fun e w' ⟨he, hw⟩ => ⟨he, by rw [hw]; exact Below.refl _ _⟩)
                have HR2 : Hid (∀ uu, CallsIn Fence.wide (qn - 1) Try.prog 65 #[.int .u32 (f.cl : Int), .int .i64 (t : Int)] (fU uu) fun e w' => e = .returned (.bool eb) ∧ ∃ uu', w' = fU uu') := fun uu => (callsIn_wide.2 (h0_HR2 uu)).mono (fun e w' ⟨he, hb⟩ => ⟨he, HU2.out _ ((HU1.out uu).trans (hb.mono (HU1.out uu).size))⟩)
                have hf_HR2 : Fence.wide.fn 65 := trivial
                clear h0_HR2
                clear y0 g1c g5 c0 f0 p0 p1 KP5 hptb lg lc lf lp
                refine (wpIn_wide (n := qn)).1 ?_
                refine wpIn_region_cls fU (by kernel_rfl) hfm (by kernel_rfl) (HU2.out _ ⟨rfl, rfl, rfl, Nat.le_refl _, fun _ _ => rfl⟩) ?_
                repeat (gi_big_quiet_step (first | (gi_at_call 68; (with_reducible exact HR.out _)) | (gi_at_call 65; (with_reducible exact HR2.out _))))
                refine wpQuietIn_nil ?_
                rintro w6 ⟨uu, rfl⟩
                have B6 : Hid (Below w2.heap.size w2 (fU uu)) := B5.out.trans ((HU1.out uu).mono B5.out.size)
                clear z0 z1 z2 z3 z4 z5 z6 HU1 HU2 HR HR2
                generalize fU uu = w6 at *
                clear tc
                go_wp2_with fail
                go_roundw
                case rel => exact ⟨k + 1, by omega, by rw [HX1.out]; exact congrArg Value.bool HNX.out.symm, by go_num, B6.out⟩
                case measure => simp [intOf]; omega
              case false =>
                obtain ⟨U, fU, hUn, hU1, hU2⟩ := class_of (fun V => Below w5.heap.size w5 V) (W := w5.drew) ⟨rfl, rfl, rfl, Nat.le_refl _, fun _ _ => rfl⟩
                have HU1 := Lib.hid hU1; have HU2 := Lib.hid hU2
                clear hU1 hU2
                have hfm : (Try.prog).follows .mixedOrders = true := by kernel_rfl
                obtain ⟨qn, hd1⟩ : ∃ q : Nat, 1 ≤ q := ⟨1, Nat.le_refl _⟩
                have z0 := fun uu => ((HU1.out uu).cell hptb).trans y0
                have z1 := fun uu => ((HU1.out uu).cell lg).trans g1c
                have z2 := fun uu => ((HU1.out uu).cell lg).trans g5
                have z3 := fun uu => ((HU1.out uu).cell lc).trans c0
                have z4 := fun uu => ((HU1.out uu).cell lf).trans f0
                have z5 := fun uu => ((HU1.out uu).cell lp).trans p0
                have z6 := fun uu => ((HU1.out uu).cell lp).trans p1
                have h0_HR : ∀ uu, Calls Try.prog 68 #[.agg #[.int .i64 (q : Int), .bool z]] (fU uu) fun e w' => e = .returned (.int .i64 (nd : Int)) ∧ Below (fU uu).heap.size (fU uu) w' := fun uu => HNE.out (fU uu)
                have HR : Hid (∀ uu, CallsIn Fence.wide (qn - 1) Try.prog 68 #[.agg #[.int .i64 (q : Int), .bool z]] (fU uu) fun e w' => e = .returned (.int .i64 (nd : Int)) ∧ ∃ uu', w' = fU uu') := fun uu => (callsIn_wide.2 (h0_HR uu)).mono (fun e w' ⟨he, hb⟩ => ⟨he, HU2.out _ ((HU1.out uu).trans (hb.mono (HU1.out uu).size))⟩)
                have hf_HR : Fence.wide.fn 68 := trivial
                clear h0_HR
                have h0_HR2 : ∀ uu, Calls Try.prog 65 #[.int .u32 (f.cl : Int), .int .i64 (t : Int)] (fU uu) fun e w' => e = .returned (.bool eb) ∧ Below (fU uu).heap.size (fU uu) w' := fun uu => (HON.out (fU uu)).mono (fun e w' ⟨he, hw⟩ => ⟨he, by rw [hw]; exact Below.refl _ _⟩)
                have HR2 : Hid (∀ uu, CallsIn Fence.wide (qn - 1) Try.prog 65 #[.int .u32 (f.cl : Int), .int .i64 (t : Int)] (fU uu) fun e w' => e = .returned (.bool eb) ∧ ∃ uu', w' = fU uu') := fun uu => (callsIn_wide.2 (h0_HR2 uu)).mono (fun e w' ⟨he, hb⟩ => ⟨he, HU2.out _ ((HU1.out uu).trans (hb.mono (HU1.out uu).size))⟩)
                have hf_HR2 : Fence.wide.fn 65 := trivial
                clear h0_HR2
                clear y0 g1c g5 c0 f0 p0 p1 KP5 hptb lg lc lf lp
                refine (wpIn_wide (n := qn)).1 ?_
                refine wpIn_region_cls fU (by kernel_rfl) hfm (by kernel_rfl) (HU2.out _ ⟨rfl, rfl, rfl, Nat.le_refl _, fun _ _ => rfl⟩) ?_
                repeat (gi_big_quiet_step (first | (gi_at_call 68; (with_reducible exact HR.out _)) | (gi_at_call 65; (with_reducible exact HR2.out _))))
                refine wpQuietIn_nil ?_
                rintro w6 ⟨uu, rfl⟩
                have B6 : Hid (Below w2.heap.size w2 (fU uu)) := B5.out.trans ((HU1.out uu).mono B5.out.size)
                clear z0 z1 z2 z3 z4 z5 z6 HU1 HU2 HR HR2
                generalize fU uu = w6 at *
                clear tc
                go_wp2_with fail
                go_roundw
                case rel => exact ⟨k + 1, by omega, by rw [HX1.out]; exact congrArg Value.bool HNX.out.symm, by go_num, B6.out⟩
                case measure => simp [intOf]; omega
          case neg =>
          obtain rfl : k = A.pts.length := by omega
          rw [List.take_length]
          obtain ⟨ok, hok⟩ : ∃ G, G = (G2 && A.pts.all P3) := ⟨_, rfl⟩
          rw [← hok]
          have HOK : Hid (askOk u.T f S n = ok) := by show _ = _; rw [HAO.out, hok, HG2.out, HG1.out]; simp only [Bool.and_assoc]
          clear hok
          cases ok
          case false =>
            have HS : Hid (askS u.T f S n = S) := by show _ = _; unfold askS; rw [HOK.out]; rfl
            go_wp2_with fail
            refine bodyPost_ret (results_none rfl _ _ _) rfl ?_
            rw [HS.out]
            exact ⟨rfl, ub, lb, A3.out, Only.of_below _ (BW2.out.trans (B3.out.mono BW2.out.size)), fun b hb => .inl hb⟩
          case true =>
            have hph0 : (S.R n).ph = 0 := by
              have := HOK.out
              rw [HAO.out, HF0.out] at this
              simp only [Bool.and_eq_true, beq_iff_eq] at this
              exact this.1.2
            have HR0 : Hid (S.R n = rs0) := (A3.out.nf n HN.out).z0 hph0
            have HSF : Hid (askS u.T f S n = ⟨(S.setR n ⟨1, 0, 0, 0⟩).R, setC S.C A.pts A.pts.length⟩) := by
              show _ = _
              unfold askS
              rw [HOK.out, if_pos rfl, ← HA.out, HR0.out]; rfl
            obtain ⟨-, -, g4, -, lg⟩ := HG.out _ _ _ _ A3.out
            have f0 := A3.out.rs.frozen (n * 4); have f1 := A3.out.rs.frozen (n * 4 + 1); have f2 := A3.out.rs.frozen (n * 4 + 2); have f3 := A3.out.rs.frozen (n * 4 + 3)
            have c0 := A3.out.rs.cell (i := n * 4) (by omega); have c1 := A3.out.rs.cell (i := n * 4 + 1) (by omega); have c2 := A3.out.rs.cell (i := n * 4 + 2) (by omega); have c3 := A3.out.rs.cell (i := n * 4 + 3) (by omega)
            have lr := A3.out.rs.lt
            have UZ : Hid (UnderP u S ub lb wr (S.setR n ⟨1, 0, 0, 0⟩) ((((wr.setCell ⟨u.rb, n * 4, none⟩ (.int .i64 1)).setCell ⟨u.rb, n * 4 + 1, none⟩ (.int .i64 0)).setCell ⟨u.rb, n * 4 + 2, none⟩ (.slice none 0 0)).setCell ⟨u.rb, n * 4 + 3, none⟩ (.slice none 0 0))) :=
              UnderP.store4 A3.out HN.out 1 0 (by omega) (fun _ => rfl) (fun _ => rfl) (by omega) (by omega)
            have KA3 := Lib.hid (tb_kept KA2.out B3.out)
            have BW3 : Hid (Below w.heap.size w wr) := BW2.out.trans (B3.out.mono BW2.out.size)
            clear hph0
            obtain ⟨wz, hwz⟩ : ∃ x : World, x = wr := ⟨_, rfl⟩
            have HZW : Hid (w.heap.size ≤ wz.heap.size ∧ ab < wz.heap.size) := by show _ ∧ _; rw [hwz]; exact ⟨BW3.out.size, heap_lt KA3.out⟩
            go_upto_region 18 with fail
            generalize (((wr.setCell ⟨u.rb, n * 4, none⟩ (.int .i64 1)).setCell ⟨u.rb, n * 4 + 1, none⟩ (.int .i64 0)).setCell ⟨u.rb, n * 4 + 2, none⟩ (.slice none 0 0)).setCell ⟨u.rb, n * 4 + 3, none⟩ (.slice none 0 0) = w4 at *
            clear f0 f1 f2 f3 c0 c1 c2 c3 lr g4 lg a2 la
            obtain ⟨u4, l4, hA4, ho4, hc4⟩ := UZ.out
            rw [← hwz] at hc4
            have Z4 : Hid (wz.heap.size ≤ w4.heap.size) := by show _ ≤ _; rw [hwz]; exact ho4.size
            have A4 := Lib.hid hA4
            have O4 : Hid (Only (Own27 u S ub lb) w w4) := (Only.of_below _ BW3.out).trans ho4
            have C4 : Hid (∀ b, Own27 u (S.setR n ⟨1, 0, 0, 0⟩) u4 l4 b → Own27 u S ub lb b ∨ wz.heap.size ≤ b) := hc4
            have HNO : Hid (∀ b, Own27 u S ub lb b → b ≠ ab) := fun b hb => by have := HOW.out b hb; have := HAB.out; have := HZ.out; omega
            have KA4 : Hid (w4.heap[ab]? = some (.cells #[.int .i64 A.sig, .slice (some ⟨tb, tof, none⟩) A.tr.length tc, .slice pa A.pts.length pc, .int .i64 A.app, .slice ca A.con.length cc, .int .u16 (A.hold : Int)] 46 (0, 0))) := (ho4.block _ (heap_lt KA3.out) (fun h => HNO.out _ h rfl)).trans KA3.out
            clear hA4 ho4 hc4 UZ A3 B3 hwz
            have a2 := cell_row (j := 2) KA4.out rfl
            have la := heap_lt KA4.out
            go_wp2_with fail
            clear a2 la
            go_loopw [12] (fun i wr => ∃ (k : Nat) (u5 l5 : Nat → Nat), k ≤ A.pts.length ∧ i = .int .i64 k ∧ R27At wr u ⟨(S.setR n ⟨1, 0, 0, 0⟩).R, setC S.C A.pts k⟩ u5 l5 ∧ Only (Own27 u S ub lb) w wr ∧ (∀ b, Own27 u ⟨(S.setR n ⟨1, 0, 0, 0⟩).R, setC S.C A.pts k⟩ u5 l5 b → Own27 u S ub lb b ∨ wz.heap.size ≤ b) ∧ wr.heap[ab]? = some (.cells #[.int .i64 A.sig, .slice (some ⟨tb, tof, none⟩) A.tr.length tc, .slice pa A.pts.length pc, .int .i64 A.app, .slice ca A.con.length cc, .int .u16 (A.hold : Int)] 46 (0, 0)) ∧ wz.heap.size ≤ wr.heap.size) (fun i _ => A.pts.length - (intOf i).toNat)
            case atStart => exact ⟨0, u4, l4, Nat.zero_le _, rfl, A4.out, O4.out, C4.out, KA4.out, Z4.out⟩
            case round =>
              clear A4 O4 C4 KA4 Z4
              obtain ⟨k, u5, l5, hk, rfl, hA5, hO5, hC5, hK5, hZ5⟩ := hrel
              have A5 := Lib.hid hA5; have O5 := Lib.hid hO5; have C5 := Lib.hid hC5; have K5 := Lib.hid hK5; have Z5 := Lib.hid hZ5
              clear hA5 hO5 hC5 hK5 hZ5
              have a2 := cell_row (j := 2) K5.out rfl
              have la := heap_lt K5.out
              by_cases hlt : k < A.pts.length
              case pos =>
                obtain ⟨pb, po, rfl, hpb, x0, x1⟩ := (HPS.out.below A5.out.bel).cell hlt
                have hpp := HPP.out k hlt
                have HST : Hid (setC S.C A.pts (k + 1) = fun j => if j = (A.pts.getD k (0, false)).1.toNat then needP (A.pts.getD k (0, false)) else setC S.C A.pts k j) := rfl
                generalize A.pts.getD k (0, false) = pp at *
                obtain ⟨y, z⟩ := pp
                simp only at x0 x1 hpp HST
                obtain ⟨q, rfl⟩ := Int.eq_ofNat_of_zero_le hpp.1
                have hqP : q < u.T.pts.length := by omega
                have HST : Hid (setC S.C A.pts (k + 1) = fun j => if j = q then needP ((q : Int), z) else setC S.C A.pts k j) := HST.out
                obtain ⟨-, -, -, g5, lg⟩ := HG.out _ _ _ _ A5.out
                have HNE := Lib.hid (fun W => rneed_any ((q : Int), z) W)
                generalize needP ((q : Int), z) = nd at *
                clear hpp
                go_upto_region 21 with fail
                obtain ⟨U, fU, hUn, hU1, hU2⟩ := class_of (fun V => Below wr.heap.size wr V) (W := wr.drew) ⟨rfl, rfl, rfl, Nat.le_refl _, fun _ _ => rfl⟩
                have HU1 := Lib.hid hU1; have HU2 := Lib.hid hU2
                clear hU1 hU2
                have hfm : (Try.prog).follows .mixedOrders = true := by kernel_rfl
                obtain ⟨qn, hd1⟩ : ∃ q : Nat, 1 ≤ q := ⟨1, Nat.le_refl _⟩
                have z0 := fun uu => ((HU1.out uu).cell hpb).trans x0
                have z1 := fun uu => ((HU1.out uu).cell hpb).trans x1
                have z2 := fun uu => ((HU1.out uu).cell lg).trans g5
                have z3 := fun uu => ((HU1.out uu).cell la).trans a2
                have h0_HR : ∀ uu, Calls Try.prog 68 #[.agg #[.int .i64 (q : Int), .bool z]] (fU uu) fun e w' => e = .returned (.int .i64 (nd : Int)) ∧ Below (fU uu).heap.size (fU uu) w' := fun uu => HNE.out (fU uu)
                have HR : Hid (∀ uu, CallsIn Fence.wide (qn - 1) Try.prog 68 #[.agg #[.int .i64 (q : Int), .bool z]] (fU uu) fun e w' => e = .returned (.int .i64 (nd : Int)) ∧ ∃ uu', w' = fU uu') := fun uu => (callsIn_wide.2 (h0_HR uu)).mono (fun e w' ⟨he, hb⟩ => ⟨he, HU2.out _ ((HU1.out uu).trans (hb.mono (HU1.out uu).size))⟩)
                have hf_HR : Fence.wide.fn 68 := trivial
                clear h0_HR
                clear x0 x1 g5 a2 hpb lg la
                refine (wpIn_wide (n := qn)).1 ?_
                refine wpIn_region_tail_at 17 fU hfm rfl (by kernel_rfl) (HU2.out _ ⟨rfl, rfl, rfl, Nat.le_refl _, fun _ _ => rfl⟩) ?_
                simp only [List.take_succ_cons, List.take_zero, List.getD_cons_succ, List.getD_cons_zero]
                repeat (gi_big_quiet_step ((gi_at_call 68; (with_reducible exact HR.out _))))
                refine wpQuietIn_nil ?_
                intro uu
                have A6 := Lib.hid (A5.out.below (HU1.out uu))
                have O6 : Hid (Only (Own27 u S ub lb) w (fU uu)) := O5.out.trans (Only.of_below _ (HU1.out uu))
                have Z6 : Hid (wz.heap.size ≤ (fU uu).heap.size) := Nat.le_trans Z5.out (HU1.out uu).size
                have K6 := Lib.hid (tb_kept K5.out (HU1.out uu))
                clear z0 z1 z2 z3 HU1 HU2 HR
                generalize fU uu = w6 at *
                have c0 := A6.out.cs.cell hqP
                have fr := A6.out.cs.frozen q
                have US := Lib.hid (UnderP.setC A6.out q nd)
                unfold Oper.wpIn
                go_simp
                generalize w6.setCell ⟨u.cb, q, none⟩ (.int .i64 (nd : Int)) = w7 at *
                clear c0 fr
                obtain ⟨u7, l7, hA7, ho7, hc7⟩ := US.out
                have A7 := Lib.hid hA7
                have O7 : Hid (Only (Own27 u S ub lb) w w7) := ⟨ho7.os.trans O6.out.os, ho7.tape.trans O6.out.tape, ho7.output.trans O6.out.output, Nat.le_trans O6.out.size ho7.size, fun i hi hm => (ho7.block i (Nat.lt_of_lt_of_le hi O6.out.size) (fun h1 => by
                  rcases C5.out i h1 with h2 | h2
                  · exact hm h2
                  · have := HZW.out.1; omega)).trans (O6.out.block i hi hm)⟩
                have C7 : Hid (∀ b, Own27 u ⟨(S.setR n ⟨1, 0, 0, 0⟩).R, fun i => if i = q then nd else setC S.C A.pts k i⟩ u7 l7 b → Own27 u S ub lb b ∨ wz.heap.size ≤ b) := fun b hb => by
                  rcases hc7 b hb with h | h
                  · exact C5.out b h
                  · exact .inr (Nat.le_trans Z6.out h)
                have K7 := Lib.hid ((ho7.block _ (heap_lt K6.out) (fun h1 => by
                  rcases C5.out _ h1 with h2 | h2
                  · exact HNO.out _ h2 rfl
                  · have := HZW.out.2; omega)).trans K6.out)
                have Z7 : Hid (wz.heap.size ≤ w7.heap.size) := Nat.le_trans Z6.out ho7.size
                rw [← HST.out] at A7 C7
                clear hA7 ho7 hc7 US A6 O6 K6 Z6
                go_wp2_with fail
                go_roundw
                case rel => exact ⟨k + 1, u7, l7, by omega, by go_num, A7.out, O7.out, C7.out, K7.out, Z7.out⟩
                case measure => simp [intOf]; omega
              case neg =>
              obtain rfl : k = A.pts.length := by omega
              go_wp2_with fail
              go_end0
              exact ⟨rfl, by rw [HSF.out]; exact ⟨u5, l5, A5.out, O5.out, fun b hb => (C5.out b hb).imp id (fun h => Nat.le_trans HZW.out.1 h)⟩⟩
end Go.Proofs.Ytlfcmedhadfheaa
