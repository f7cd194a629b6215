/- must, the walk. -/
import Derived.Test.YtpodedhnlicckaaGreatDoorTabMu
namespace Go.Proofs.YtpodedhnlicckaaGreatDoor
open Go.RowKit
set_option linter.unusedVariables false
set_option linter.unusedSimpArgs false
set_option maxRecDepth 100000 in
set_option maxHeartbeats 4000000 in
theorem must_any (v va vb : Value) (T : Tab) (A B : Rt) (w : World) (hT : TabAt w v T) (hA : RVal w va A) (hB : RVal w vb B) :
    Calls Tryz.prog 33 #[v, va, vb] w fun e w' => e = .returned (.bool (mustB T.pts A B)) ∧ Below w.heap.size w w' := by
  obtain ⟨⟨vp, vr, rfl, hP, _⟩, _, _⟩ := hT
  obtain ⟨⟨at1, at2, at4, rfl, hA1, hA2, _⟩, _, _, _⟩ := hA
  obtain ⟨⟨bt1, bt2, bt4, rfl, hB1, hB2, _⟩, _, _, _⟩ := hB
  have z1 : (w.alloc (.cells #[.int .i64 T.tracks, vp, .int .i64 T.sigs, vr] 25)).heap.size = w.heap.size + 1 := Array.size_push _
  obtain ⟨w0, hw0⟩ : ∃ w0, w0 = (w.alloc (.cells #[.int .i64 T.tracks, vp, .int .i64 T.sigs, vr] 25)).alloc (.cells #[.int .i64 A.sig, at1, at2, .int .i64 A.app, at4, .int .u16 (A.hold : Int)] 30) := ⟨_, rfl⟩
  have z2 : w0.heap.size = w.heap.size + 2 := by rw [hw0]; show (Array.push _ _).size = _; rw [Array.size_push, z1]
  obtain ⟨w1, hw1⟩ : ∃ w1, w1 = w0.alloc (.cells #[.int .i64 B.sig, bt1, bt2, .int .i64 B.app, bt4, .int .u16 (B.hold : Int)] 30) := ⟨_, rfl⟩
  have B01 : Hid (Below w0.heap.size w0 w1) := by rw [hw1]; exact tb_alloc_below _ _
  have K3 : Hid (w1.heap[w.heap.size]? = some (.cells #[.int .i64 T.tracks, vp, .int .i64 T.sigs, vr] 25 (0, 0))) := tb_kept (by rw [hw0]; exact tb_kept (heap_alloc_new _ _) (tb_alloc_below _ _)) B01.out
  have K4 : Hid (w1.heap[w.heap.size + 1]? = some (.cells #[.int .i64 A.sig, at1, at2, .int .i64 A.app, at4, .int .u16 (A.hold : Int)] 30 (0, 0))) := tb_kept (by rw [hw0, ← z1]; exact heap_alloc_new _ _) B01.out
  have K5 : Hid (w1.heap[w.heap.size + 2]? = some (.cells #[.int .i64 B.sig, bt1, bt2, .int .i64 B.app, bt4, .int .u16 (B.hold : Int)] 30 (0, 0))) := by show _ = _; rw [hw1, ← z2]; exact heap_alloc_new _ _
  have B1 : Hid (Below w.heap.size w w1) := by
    have : Below w.heap.size w w0 := by rw [hw0]; exact (tb_alloc_below w _).alloc (tb_alloc_below w _).size _
    exact this.trans (B01.out.mono this.size)
  have HW1 : Hid (w1 = ((w.alloc (.cells #[.int .i64 T.tracks, vp, .int .i64 T.sigs, vr] 25)).alloc (.cells #[.int .i64 A.sig, at1, at2, .int .i64 A.app, at4, .int .u16 (A.hold : Int)] 30)).alloc (.cells #[.int .i64 B.sig, bt1, bt2, .int .i64 B.app, bt4, .int .u16 (B.hold : Int)] 30)) := by rw [hw1, hw0]; rfl
  have hP1 := hP.below B1.out; have hA11 := hA1.below B1.out; have hA21 := hA2.below B1.out; have hB11 := hB1.below B1.out; have hB21 := hB2.below B1.out
  have M1 : Hid (∀ V, Below w1.heap.size w1 V → Calls Tryz.prog 72 #[at1, bt1, .func (.func 70) #[] #[]] V fun e w' => e = .returned (.bool (A.tr.any fun x => B.tr.any fun y => x == y)) ∧ Below V.heap.size V w') := fun V hV =>
    meets_int_int at1 bt1 A.tr B.tr _ #[] (fun x y => x == y) V (enters_of Tryz.func70 (by kernel_rfl) rfl) (hA11.below hV) (hB11.below hV) (fun i hi j hj W hW => by rw [Array.append_empty]; exact must1_any _ _ W)
  have HL : ∀ (p : Int × Bool) (y : Int) V W, Below w1.heap.size w1 V → Below V.heap.size V W → Calls Tryz.prog 71 (#[.agg #[.int .i64 p.1, .bool p.2], .int .i64 y] ++ #[.pointer (some ⟨w.heap.size, 0, none⟩)]) W fun e w' => e = .returned (.bool (liesB T.pts p y)) ∧ Below W.heap.size W w' := fun p y V W hV hW =>
    must2_any p y T.pts T.tracks T.sigs vp vr w.heap.size W ((hP1.below hV).below hW) (tb_kept (tb_kept K3.out hV) hW)
  have M2 : Hid (∀ V, Below w1.heap.size w1 V → Calls Tryz.prog 73 #[at2, bt1, .func (.func 71) #[] #[.pointer (some ⟨w.heap.size, 0, none⟩)]] V fun e w' => e = .returned (.bool (A.pts.any fun p => B.tr.any fun y => liesB T.pts p y)) ∧ Below V.heap.size V w') := fun V hV =>
    meets_pt_int at2 bt1 A.pts B.tr _ _ (fun p y => liesB T.pts p y) V (enters_of Tryz.func71 (by kernel_rfl) rfl) (hA21.below hV) (hB11.below hV) (fun i hi j hj W hW => HL _ _ V W hV hW)
  have M3 : Hid (∀ V, Below w1.heap.size w1 V → Calls Tryz.prog 73 #[bt2, at1, .func (.func 71) #[] #[.pointer (some ⟨w.heap.size, 0, none⟩)]] V fun e w' => e = .returned (.bool (B.pts.any fun p => A.tr.any fun y => liesB T.pts p y)) ∧ Below V.heap.size V w') := fun V hV =>
    meets_pt_int bt2 at1 B.pts A.tr _ _ (fun p y => liesB T.pts p y) V (enters_of Tryz.func71 (by kernel_rfl) rfl) (hB21.below hV) (hA11.below hV) (fun i hi j hj W hW => HL _ _ V W hV hW)
  have M4 : Hid (∀ V, Below w1.heap.size w1 V → Calls Tryz.prog 74 #[at2, bt2, .func (.func 75) #[] #[]] V fun e w' => e = .returned (.bool (A.pts.any fun p => B.pts.any fun q => oppB p q)) ∧ Below V.heap.size V w') := fun V hV =>
    meets_pt_pt at2 bt2 A.pts B.pts _ #[] (fun p q => oppB p q) V (enters_of Tryz.func75 (by kernel_rfl) rfl) (hA21.below hV) (hB21.below hV) (fun i hi j hj W hW => by rw [Array.append_empty]; exact must3_any _ _ W)
  have HM : Hid (mustB T.pts A B = ((A.sig == B.sig) || ((A.tr.any fun x => B.tr.any fun y => x == y) || ((A.pts.any fun p => B.tr.any fun y => liesB T.pts p y) || ((B.pts.any fun p => A.tr.any fun y => liesB T.pts p y) || (A.pts.any fun p => B.pts.any fun q => oppB p q)))))) := rfl
  rw [HM.out]
  clear HM HL hP1 hA11 hA21 hB11 hB21 hP hA1 hA2 hB1 hB2 z1 z2 hw0 hw1 B01
  generalize (A.tr.any fun x => B.tr.any fun y => x == y) = e1 at *
  generalize (A.pts.any fun p => B.tr.any fun y => liesB T.pts p y) = e2 at *
  generalize (B.pts.any fun p => A.tr.any fun y => liesB T.pts p y) = e3 at *
  generalize (A.pts.any fun p => B.pts.any fun q => oppB p q) = e4 at *
  generalize T.tracks = ttr at *
  generalize T.sigs = tsg at *
  generalize A.sig = asg at *
  generalize B.sig = bsg at *
  generalize A.app = aap at *
  generalize B.app = bap at *
  generalize A.hold = ah at *
  generalize B.hold = bh at *
  obtain ⟨e0, h0⟩ : ∃ e0, e0 = (asg == bsg) := ⟨_, rfl⟩
  rw [← h0]
  have H0 := Lib.hid h0
  clear h0
  go_enter Tryz.func33, Tryz.ntmps33
  go_upto_region 3 with fail
  first | rw [← HW1.out] | skip
  have b1 : Below w1.heap.size w1 w1 := Below.refl _ _
  cases e0
  case true =>
    have t := H0.out.symm
    have c0 := cell_row (j := 0) (tb_kept K4.out (b1)) rfl
    have c1 := cell_row (j := 1) (tb_kept K4.out (b1)) rfl
    have c2 := cell_row (j := 2) (tb_kept K4.out (b1)) rfl
    have d0 := cell_row (j := 0) (tb_kept K5.out (b1)) rfl
    have d1 := cell_row (j := 1) (tb_kept K5.out (b1)) rfl
    have d2 := cell_row (j := 2) (tb_kept K5.out (b1)) rfl
    have l4 := heap_lt (tb_kept K4.out (b1)); have l5 := heap_lt (tb_kept K5.out (b1))
    go_wp2_with fail
    go_ret
    exact ⟨by first | rfl | simp, B1.out.trans ((b1).mono B1.out.size)⟩
  case false =>
    have t := H0.out.symm
    have c0 := cell_row (j := 0) (tb_kept K4.out (b1)) rfl
    have c1 := cell_row (j := 1) (tb_kept K4.out (b1)) rfl
    have c2 := cell_row (j := 2) (tb_kept K4.out (b1)) rfl
    have d0 := cell_row (j := 0) (tb_kept K5.out (b1)) rfl
    have d1 := cell_row (j := 1) (tb_kept K5.out (b1)) rfl
    have d2 := cell_row (j := 2) (tb_kept K5.out (b1)) rfl
    have l4 := heap_lt (tb_kept K4.out (b1)); have l5 := heap_lt (tb_kept K5.out (b1))
    go_wp2_with fail
    refine (M1.out w1 b1).mono ?_
    rintro e w2 ⟨rfl, hb⟩
    have b2 : Below w1.heap.size w1 w2 := (b1).trans (hb.mono (b1).size)
    clear hb c0 c1 c2 d0 d1 d2 l4 l5
    cases e1
    case true =>
      go_wp2_with fail
      go_ret
      exact ⟨by first | rfl | simp, B1.out.trans ((b2).mono B1.out.size)⟩
    case false =>
      have c0 := cell_row (j := 0) (tb_kept K4.out (b2)) rfl
      have c1 := cell_row (j := 1) (tb_kept K4.out (b2)) rfl
      have c2 := cell_row (j := 2) (tb_kept K4.out (b2)) rfl
      have d0 := cell_row (j := 0) (tb_kept K5.out (b2)) rfl
      have d1 := cell_row (j := 1) (tb_kept K5.out (b2)) rfl
      have d2 := cell_row (j := 2) (tb_kept K5.out (b2)) rfl
      have l4 := heap_lt (tb_kept K4.out (b2)); have l5 := heap_lt (tb_kept K5.out (b2))
      go_wp2_with fail
      refine (M2.out w2 b2).mono ?_
      rintro e w3 ⟨rfl, hb⟩
      have b3 : Below w1.heap.size w1 w3 := (b2).trans (hb.mono (b2).size)
      clear hb c0 c1 c2 d0 d1 d2 l4 l5
      cases e2
      case true =>
        go_wp2_with fail
        go_ret
        exact ⟨by first | rfl | simp, B1.out.trans ((b3).mono B1.out.size)⟩
      case false =>
        have c0 := cell_row (j := 0) (tb_kept K4.out (b3)) rfl
        have c1 := cell_row (j := 1) (tb_kept K4.out (b3)) rfl
        have c2 := cell_row (j := 2) (tb_kept K4.out (b3)) rfl
        have d0 := cell_row (j := 0) (tb_kept K5.out (b3)) rfl
        have d1 := cell_row (j := 1) (tb_kept K5.out (b3)) rfl
        have d2 := cell_row (j := 2) (tb_kept K5.out (b3)) rfl
        have l4 := heap_lt (tb_kept K4.out (b3)); have l5 := heap_lt (tb_kept K5.out (b3))
        go_wp2_with fail
        refine (M3.out w3 b3).mono ?_
        rintro e w4 ⟨rfl, hb⟩
        have b4 : Below w1.heap.size w1 w4 := (b3).trans (hb.mono (b3).size)
        clear hb c0 c1 c2 d0 d1 d2 l4 l5
        cases e3
        case true =>
          go_wp2_with fail
          go_ret
          exact ⟨by first | rfl | simp, B1.out.trans ((b4).mono B1.out.size)⟩
        case false =>
          have c0 := cell_row (j := 0) (tb_kept K4.out (b4)) rfl
          have c1 := cell_row (j := 1) (tb_kept K4.out (b4)) rfl
          have c2 := cell_row (j := 2) (tb_kept K4.out (b4)) rfl
          have d0 := cell_row (j := 0) (tb_kept K5.out (b4)) rfl
          have d1 := cell_row (j := 1) (tb_kept K5.out (b4)) rfl
          have d2 := cell_row (j := 2) (tb_kept K5.out (b4)) rfl
          have l4 := heap_lt (tb_kept K4.out (b4)); have l5 := heap_lt (tb_kept K5.out (b4))
          go_wp2_with fail
          refine (M4.out w4 b4).mono ?_
          rintro e w5 ⟨rfl, hb⟩
          have b5 : Below w1.heap.size w1 w5 := (b4).trans (hb.mono (b4).size)
          clear hb c0 c1 c2 d0 d1 d2 l4 l5
          go_wp2_with fail
          go_ret
          exact ⟨by first | rfl | simp, B1.out.trans ((b5).mono B1.out.size)⟩
end Go.Proofs.YtpodedhnlicckaaGreatDoor
