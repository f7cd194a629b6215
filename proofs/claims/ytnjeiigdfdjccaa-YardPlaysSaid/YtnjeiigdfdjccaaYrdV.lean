/- works. -/
import Derived.Test.YtnjeiigdfdjccaaYrdK
import Derived.Test.YtnjeiigdfdjccaaYrdT
import Derived.Test.YtnjeiigdfdjccaaAutGT
namespace Go.Proofs.Ytnjeiigdfdjccaa
open Go.RowKit Go.Shelf
set_option linter.unusedVariables false
set_option linter.unusedSimpArgs false
attribute [local go_sem] Oper.semAt_some
theorem two_check : checkE twoT = 0 := by decide +kernel
theorem two_tok : TOk twoT ∧ 0 < twoT.rts.length := tok_of two_check (fun n hn => by match n, hn with | 0, _ => decide | 1, _ => decide)
def yS1 : YS := frameY twoT 1 ys0 [⟨3, 0⟩]
def yS2 : YS := frameY twoT 1 yS1 [⟨1, 0⟩]
def yS3 : YS := frameY twoT 1 yS2 [⟨3, 0⟩]
def yS4 : YS := frameY twoT 1 yS3 [⟨6, 0⟩]
def yS5 : YS := frameY twoT 1 yS4 [⟨6, 0⟩]
theorem yE1 : ((errsY twoT ys0 [⟨3, 0⟩]).getD 0 0 == 6) = true := by decide +kernel
theorem yE2 : ((errsY twoT yS1 [⟨1, 0⟩]).getD 0 0 == 0) = true := by decide +kernel
theorem yE3 : ((errsY twoT yS2 [⟨3, 0⟩]).getD 0 0 == 0) = true := by decide +kernel
theorem yE4 : ((errsY twoT yS3 [⟨6, 0⟩]).getD 0 0 == 0) = true := by decide +kernel
theorem yE5 : ((errsY twoT yS4 [⟨6, 0⟩]).getD 0 0 == 0) = true := by decide +kernel
theorem yE6 : ((errsY twoT yS5 [⟨6, 0⟩]).getD 0 0 == 4) = true := by decide +kernel
theorem yR3 : (yS3.A.at 2 0).val = .agg #[.int .u8 3, .int .u16 0, .int .u32 1, .int .u32 0] := by kernel_rfl
theorem yC30 : clearB twoT yS3.tn 0 = false := by decide +kernel
theorem yC31 : clearB twoT yS3.tn 1 = true := by decide +kernel
theorem yC41 : clearB twoT yS4.tn 1 = false := by decide +kernel
theorem yR5 : (yS5.A.at 2 0).val = .agg #[.int .u8 0, .int .u16 0, .int .u32 0, .int .u32 0] := by kernel_rfl
theorem yN5 : onIdx yS5.tn 2 = [] := by decide +kernel
theorem yf1 : YFine twoT yS1 := (yfine0 twoT).frame two_check two_tok.1 (by omega) _
theorem yf2 : YFine twoT yS2 := yf1.frame two_check two_tok.1 (by omega) _
theorem yf3 : YFine twoT yS3 := yf2.frame two_check two_tok.1 (by omega) _
theorem yf4 : YFine twoT yS4 := yf3.frame two_check two_tok.1 (by omega) _
theorem yf5 : YFine twoT yS5 := yf4.frame two_check two_tok.1 (by omega) _
theorem YFine.on {T : Tab} {Y : YS} (h : YFine T Y) : OnOk T Y.tn := fun n hn hi => ⟨(h.inv.tr n hn hi).1, (h.inv.tr n hn hi).2.2.1⟩
/-- What a world of works is like. -/
structure WkAt (y : Yd) (rb : Nat) (w2 : World) (Y : YS) (W : World) : Prop where
  t : TurnY y w2 Y W
  r : W.heap[rb]? = some (.cells #[.bool false] 4 (0, 0))
theorem WkAt.turn {y : Yd} {rb : Nat} {w2 W W' : World} {Y Y' : YS} (h : WkAt y rb w2 Y W) (hr : ¬ y.M rb) (k : TurnY y W Y' W') : WkAt y rb w2 Y' W' :=
  ⟨h.t.trans k, (k.2.block _ (heap_lt h.r) hr).trans h.r⟩
theorem WkAt.below {y : Yd} {rb : Nat} {w2 W W' : World} {Y : YS} (h : WkAt y rb w2 Y W) (hb : Below W.heap.size W W') : WkAt y rb w2 Y W' :=
  ⟨h.t.below hb, tb_kept h.r hb⟩
set_option maxRecDepth 100000 in
set_option maxHeartbeats 16000000 in
theorem works_in (n : Nat) (w : World) : CallsIn Fence.wide (n + 4) Try.prog 8 #[] w fun e w' => e = .returned (.bool true) ∧ Below w.heap.size w w' := by
  refine callsIn_of_wp_marks Try.func8 rfl trivial ?_ rfl
  simp only [Try.ntmps8, List.size_toArray, List.length_cons, List.length_nil, Nat.reduceAdd, Nat.reduceSub, Array.replicate_succ, Array.replicate_zero, List.push_toArray, List.append_toArray, List.nil_append, List.cons_append]
  gi_wp2_with (fail)
  obtain ⟨w0, hw0⟩ : ∃ w0, w0 = w.alloc (.cells #[.bool false] 4) := ⟨_, rfl⟩
  rw [← hw0]
  have B0 : Hid (Below w.heap.size w w0) := by rw [hw0]; exact alloc_below _ _
  have R0 : Hid (w0.heap[w.heap.size]? = some (.cells #[.bool false] 4 (0, 0))) := by rw [hw0]; exact heap_alloc_new _ _
  clear hw0
  obtain ⟨rb, hrb⟩ : ∃ b, b = w.heap.size := ⟨_, rfl⟩
  have HRB := Lib.hid hrb
  rw [← hrb] at R0 ⊢
  clear hrb
  refine ⟨trivial, (callsIn_wide.2 (two_any w0)).mono ?_⟩
  rintro e w1 ⟨v, rfl, hv, hb1⟩
  have B1 : Hid (Below w.heap.size w w1) := B0.out.trans (hb1.mono B0.out.size)
  have R1 := Lib.hid (tb_kept R0.out hb1)
  have HN := Lib.hid (ynew_any v twoT 1 w1 hv ⟨by decide, by decide⟩ (fun r hr => by rcases List.mem_cons.1 hr with rfl | hr; (· decide); (· rcases List.mem_cons.1 hr with rfl | hr; (· decide); (· cases hr))) (fun _ => two_tok))
  clear hb1 hv R0 B0
  gi_wp2_with (fail)
  refine ⟨trivial, (callsIn_wide.2 (HN.out)).mono ?_⟩
  rintro e w2 ⟨hb2, hif⟩
  rw [if_pos two_check, if_pos ⟨by omega, by omega⟩] at hif
  obtain ⟨y, rfl, hY, hyT, hyd, hyw, _⟩ := hif
  have hyd1 : y.d = 1 := by omega
  have hx : YCtx y := ⟨by rw [hyT]; exact two_check, by rw [hyT]; exact two_tok.1, by rw [hyT]; decide, by omega, by rw [hyT]; decide⟩
  have B2 : Hid (Below w.heap.size w w2) := B1.out.trans (hb2.mono B1.out.size)
  have K2 : Hid (WkAt y rb w2 ys0 w2) := ⟨TurnY.refl hY, tb_kept R1.out hb2⟩
  have HRM : Hid (¬ y.M rb) := fun h => by
    have h1 := (hY.M_ge _ h).1; have h2 := hY.ap.z; have h3 := heap_lt R1.out
    rw [hyw] at h2
    omega
  have HW : Hid (w.heap.size ≤ y.w0.heap.size) := by show _ ≤ _; rw [hyw]; exact B1.out.size
  have HO : Hid (∀ W Y (kd q : Nat) (m : Int), YdAt W y Y → YFine twoT Y → kd < 256 → i64ok m → Calls Try.prog 22 #[.pointer (some ⟨y.g, 0, none⟩), .int .u8 (kd : Int), .int .i64 m, .int .i64 (q : Int)] W fun e w' =>
      e = .returned (.bool ((errsY twoT Y [⟨kd, m⟩]).getD 0 0 == q)) ∧ TurnY y W (frameY twoT 1 Y [⟨kd, m⟩]) w') := fun W Y kd q m h1 h2 h3 h4 => by
    have := yone_any y Y kd q m W h1 hx (by rw [hyT]; exact h2) h3 h4
    rw [hyT, hyd1] at this
    exact this
  have HCL : Hid (∀ W Y (x : Int), YdAt W y Y → YFine twoT Y → Calls Try.prog 12 #[.pointer (some ⟨y.g, 0, none⟩), .int .i64 x] W fun e w' => e = .returned (.bool (clearB twoT Y.tn x)) ∧ Below W.heap.size W w') := fun W Y x h1 h2 => by
    have := yclear_any y Y x W h1 hx.tok (by rw [hyT]; exact h2.on)
    rw [hyT] at this
    exact this
  have HRT : Hid (∀ W Y, YdAt W y Y → Calls Try.prog 11 #[.pointer (some ⟨y.g, 0, none⟩), .int .i64 0] W fun e w' => e = .returned (Y.A.at 2 0).val ∧ Below W.heap.size W w') := fun W Y h1 => by
    have := yroute_any y Y 0 W h1 (by rw [hyT]; decide)
    rw [hyT] at this
    exact this
  have HYT := Lib.hid hyT; have HX := Lib.hid hx; have HYD := Lib.hid hY
  clear hb2 hY hyT hyd hyw hyd1 hx HN R1
  have iok : i64ok 0 := ⟨by omega, by omega⟩
  gi_wp2_with (fail)
  refine ⟨trivial, (callsIn_wide.2 (HO.out w2 ys0 3 6 0 K2.out.t.1 (yfine0 twoT) (by omega) iok)).mono ?_⟩
  rintro e w3 ⟨rfl, hk⟩
  rw [yE1]
  have K3 : Hid (WkAt y rb w2 yS1 w3) := K2.out.turn HRM.out hk
  clear hk K2
  gi_wp2_with (fail)
  refine ⟨trivial, (callsIn_wide.2 (HO.out w3 yS1 1 0 0 K3.out.t.1 yf1 (by omega) iok)).mono ?_⟩
  rintro e w4 ⟨rfl, hk⟩
  rw [yE2]
  have K4 : Hid (WkAt y rb w2 yS2 w4) := K3.out.turn HRM.out hk
  clear hk K3
  gi_wp2_with (fail)
  refine ⟨trivial, (callsIn_wide.2 (HO.out w4 yS2 3 0 0 K4.out.t.1 yf2 (by omega) iok)).mono ?_⟩
  rintro e w5 ⟨rfl, hk⟩
  rw [yE3]
  have K5 : Hid (WkAt y rb w2 yS3 w5) := K4.out.turn HRM.out hk
  clear hk K4
  have hf3 : ∀ W, (Instr.field 43 (.agg #[.int .u8 3, .int .u16 0, .int .u32 1, .int .u32 0]) 0).run Try.prog W = .ok (.int .u8 3) W := fun W => by kernel_rfl
  gi_wp2_with (fail)
  refine ⟨trivial, (callsIn_wide.2 (HRT.out w5 yS3 K5.out.t.1)).mono ?_⟩
  rintro e w6 ⟨rfl, hb⟩
  rw [yR3]
  have K6 := Lib.hid (K5.out.below hb)
  clear hb K5
  gi_wp2_with (fail)
  refine ⟨trivial, (callsIn_wide.2 (HCL.out w6 yS3 0 K6.out.t.1 yf3)).mono ?_⟩
  rintro e w7 ⟨rfl, hb⟩
  rw [yC30]
  have K7 := Lib.hid (K6.out.below hb)
  clear hb K6
  gi_wp2_with (fail)
  refine ⟨trivial, (callsIn_wide.2 (HCL.out w7 yS3 1 K7.out.t.1 yf3)).mono ?_⟩
  rintro e w8 ⟨rfl, hb⟩
  rw [yC31]
  have K8 := Lib.hid (K7.out.below hb)
  clear hb K7
  gi_wp2_with (fail)
  refine ⟨trivial, (callsIn_wide.2 (HO.out w8 yS3 6 0 0 K8.out.t.1 yf3 (by omega) iok)).mono ?_⟩
  rintro e w9 ⟨rfl, hk⟩
  rw [yE4]
  have K9 : Hid (WkAt y rb w2 yS4 w9) := K8.out.turn HRM.out hk
  clear hk K8
  gi_wp2_with (fail)
  refine ⟨trivial, (callsIn_wide.2 (HCL.out w9 yS4 1 K9.out.t.1 yf4)).mono ?_⟩
  rintro e w10 ⟨rfl, hb⟩
  rw [yC41]
  have K10 := Lib.hid (K9.out.below hb)
  clear hb K9
  gi_wp2_with (fail)
  refine ⟨trivial, (callsIn_wide.2 (HO.out w10 yS4 6 0 0 K10.out.t.1 yf4 (by omega) iok)).mono ?_⟩
  rintro e w11 ⟨rfl, hk⟩
  rw [yE5]
  have K11 : Hid (WkAt y rb w2 yS5 w11) := K10.out.turn HRM.out hk
  clear hk K10
  have hf5 : ∀ W, (Instr.field 43 (.agg #[.int .u8 0, .int .u16 0, .int .u32 0, .int .u32 0]) 0).run Try.prog W = .ok (.int .u8 0) W := fun W => by kernel_rfl
  gi_wp2_with (fail)
  refine ⟨trivial, (callsIn_wide.2 (HRT.out w11 yS5 K11.out.t.1)).mono ?_⟩
  rintro e w12 ⟨rfl, hb⟩
  rw [yR5]
  have K12 := Lib.hid (K11.out.below hb)
  clear hb K11
  gi_wp2_with (fail)
  refine ⟨trivial, (callsIn_wide.2 (trains_any _ (.inr ⟨y.g, rfl⟩) w12)).mono ?_⟩
  rintro e w13 ⟨rfl, hbx, hb⟩
  have K13 := Lib.hid (K12.out.below hb)
  clear hb
  clear hf3 hf5 K12
  gi_wp2_with (fail)
  have K13L : Hid (w.heap.size ≤ w13.heap.size) := Nat.le_trans B2.out.size K13.out.t.2.size
  have hN : y.u.T.rts.length = 2 := by rw [HYT.out]; rfl
  have HQ := trains1_in (n + 4 - 1) y yS5 w12.heap.size w13 K13.out.t.1 (by omega) (by omega) hbx
  rw [hN, yN5] at HQ
  obtain ⟨B, hB⟩ : ∃ B, B = w13.heap.size := ⟨_, rfl⟩
  have HBw := Lib.hid hB
  refine rangeFunc_c (ps := #[64]) rfl (by omega) (gf := 27) (lb := #[.pointer (some ⟨w12.heap.size, 0, none⟩)]) rfl trivial (enters_of Try.func27 (by kernel_rfl) rfl)
    (Kb := fun _ => False) (N := 0) (fun b hb => hb.elim) HQ (fun _ => rfl)
    (fun x Fb W => Below w13.heap.size w13 W) (fun _ _ _ _ => False)
    (fun Fb s W W' row h hg hr => h.grown hg h.size (fun r e => (hr r e).1)) (fun _ _ s W W' row h _ _ => h.elim)
    (fun s Fb A W h hb => h.trans (hb.mono h.size)) (fun _ _ _ _ _ h _ => h.elim)
    (fun A hA => hA) ?_ ?assign ?body ?done ?stop
  case assign =>
    intro l x W K hK
    unfold encT
    gi_wp2
    exact hK
  case stop => intro D c x Fb W _ _ _ h; exact h.elim
  case body => intro l x Fb W hx; exact absurd hx (by omega)
  case done =>
    intro D Fb W hD hW hK
    have K14 := Lib.hid (K13.out.below hW)
    have HDW := Lib.hid hK
    have HDN : Hid (¬ y.M D ∧ D ≠ rb) := ⟨fun h => by have := (K13.out.t.1.M_ge _ h).2; omega, fun e => by have := heap_lt K13.out.r; omega⟩
    clear hW hK K13 HQ hbx
    gi_wp2_with (fail)
    refine ⟨trivial, (callsIn_wide.2 (HO.out W yS5 6 4 0 K14.out.t.1 yf5 (by omega) iok)).mono ?_⟩
    rintro e w15 ⟨rfl, hk⟩
    rw [yE6]
    have K15 : Hid (WkAt y rb w2 (frameY twoT 1 yS5 [⟨6, 0⟩]) w15) := K14.out.turn HRM.out hk
    have HD15 : Hid (w15.heap[D]? = some (.deferred (some []))) := (hk.2.block _ (Array.getElem?_eq_some_iff.1 HDW.out).1 HDN.out.1).trans HDW.out
    clear hk K14 HDW
    have z0 := cell_row (j := 0) K15.out.r rfl
    have zf0 : w15.frozen? ⟨rb, 0, none⟩ = false := frozen_of_row _ _ _ _ _ K15.out.r
    have lr := heap_lt K15.out.r
    gi_wp2_with (fail)
    have hK16 : (w15.setCell ⟨rb, 0, none⟩ (.bool true)).heap[D]? = some (.deferred (some [])) := (heap_setCell_other _ _ _ _ (by show ¬ _ = _; dsimp only; exact HDN.out.2)).trans HD15.out
    have hR16 : (w15.setCell ⟨rb, 0, none⟩ (.bool true)).heap[rb]? = some (.cells #[.bool true] 4 (0, 0)) := heap_setCell_same w15 rb 0 _ _ (.bool true) K15.out.r
    have hB16 : Below w.heap.size w (w15.setCell ⟨rb, 0, none⟩ (.bool true)) := (K15.out.t.toBelow B2.out HYD.out HW.out).setCell (p := ⟨rb, 0, none⟩) (Nat.le_of_eq HRB.out.symm) _
    generalize w15.setCell ⟨rb, 0, none⟩ (.bool true) = w16 at *
    clear z0 zf0 lr K15 HD15
    refine ⟨by simp, .inl ⟨_, _, rfl, run_takeDeferred hK16, ?_⟩⟩
    have hR17 : (w16.putObj D (.deferred none)).heap[rb]? = some (.cells #[.bool true] 4 (0, 0)) := (World.putObj_heap_other (Ne.symm HDN.out.2)).trans hR16
    have x0 := cell_row (j := 0) hR17 rfl
    have lx := heap_lt hR17
    have hB17 : Below w.heap.size w (w16.putObj D (.deferred none)) := hB16.grown (grownBy_putObj' w16 D (.deferred none)) hB16.size (fun j e => by
      cases e
      exact Nat.le_trans (K13L.out) hD)
    generalize w16.putObj D (.deferred none) = w17 at *
    refine ⟨.bool true, by simp [results, Try.f8, go_sem, x0, lx], rfl, hB17⟩
theorem yworks_any (w : World) : Calls Try.prog 8 #[] w fun e w' => e = .returned (.bool true) ∧ Below w.heap.size w w' :=
  (callsIn_wide (n := 4)).1 (works_in 0 w)
end Go.Proofs.Ytnjeiigdfdjccaa
