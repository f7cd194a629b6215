/- The document's examples. -/
import Derived.Test.YtnjeiigdfdjccaaYrdL
namespace Go.Proofs.Ytnjeiigdfdjccaa
open Go.RowKit Go.Shelf
set_option linter.unusedVariables false
set_option linter.unusedSimpArgs false
attribute [local go_sem] Oper.semAt_some
def zT : Tab := ⟨0, [], 0, []⟩
theorem zT_at (w : World) : TabAt w (.agg #[.int .i64 0, .slice none 0 0, .int .i64 0, .slice none 0 0]) zT :=
  ⟨⟨_, _, rfl, ⟨⟨none, 0, rfl, Nat.le_refl _, by unfold maxLen; omega, .inl rfl⟩, fun i hi => absurd hi (by show ¬ i < 0; omega)⟩, ⟨⟨none, 0, fun _ _ => undef, rfl, Nat.le_refl _, by unfold maxLen; omega, .inl rfl, fun i hi => absurd hi (by show ¬ i < 0; omega)⟩⟩⟩, ⟨by show _ ≤ (0 : Int); omega, by show (0 : Int) ≤ _; omega⟩, ⟨by show _ ≤ (0 : Int); omega, by show (0 : Int) ≤ _; omega⟩⟩
theorem zT_check : checkE zT = 260 := by decide +kernel
def kS1 : YS := frameY twoT 1 ys0 [⟨1, 1⟩]
def kS2 : YS := frameY twoT 1 kS1 []
def kS3 : YS := frameY twoT 1 kS2 []
def kM4 : List MV := [⟨0, 0⟩, ⟨1, 2⟩, ⟨8, 1⟩, ⟨4, 1⟩]
def kS4 : YS := frameY twoT 1 kS3 kM4
theorem kL1 : kS1.L = ⟨0, 0, 1, 2⟩ := by kernel_rfl
theorem kL2 : kS2.L = ⟨0, 0, 1, 2⟩ := by kernel_rfl
theorem kL3 : kS3.L = ⟨2, 0, 1, 2⟩ := by kernel_rfl
theorem kE4 : intE (errsY twoT kS3 kM4) = [2, 4, 4, 4] := by decide +kernel
theorem kP1 : pointI 1 kS1.pn 0 = 0 := by decide +kernel
theorem kP2 : pointI 1 kS2.pn 0 = 0 := by decide +kernel
theorem kP3 : pointI 1 kS3.pn 0 = 2 := by decide +kernel
theorem kf1 : YFine twoT kS1 := (yfine0 twoT).frame two_check two_tok.1 (by omega) _
theorem kf2 : YFine twoT kS2 := kf1.frame two_check two_tok.1 (by omega) _
theorem kf3 : YFine twoT kS3 := kf2.frame two_check two_tok.1 (by omega) _
/-- A world of YardKnown: the result's cell, the orders' boxes, the yard. -/
structure KnAt (y : Yd) (rb : Nat) (w2 : World) (Y : YS) (l : List (Nat × OD)) (W : World) : Prop where
  t : TurnY y w2 Y W
  r : W.heap[rb]? = some (.cells #[.bool false] 4 (0, 0))
  o : ∀ p ∈ l, ¬ y.M p.1 ∧ W.heap[p.1]? = some (.cells #[.int .u32 (p.2.pr : Int), .int .u32 (p.2.no : Int), .int .u32 (p.2.re : Int), .int .u32 (p.2.lo : Int)] 35 (0, 0))
theorem KnAt.turn {y : Yd} {rb : Nat} {w2 W W' : World} {Y Y' : YS} {l : List (Nat × OD)} (h : KnAt y rb w2 Y l W) (hr : ¬ y.M rb) (k : TurnY y W Y' W') : KnAt y rb w2 Y' l W' :=
  ⟨h.t.trans k, (k.2.block _ (heap_lt h.r) hr).trans h.r, fun p hp => ⟨(h.o p hp).1, (k.2.block _ (heap_lt (h.o p hp).2) (h.o p hp).1).trans (h.o p hp).2⟩⟩
theorem KnAt.below {y : Yd} {rb : Nat} {w2 W W' : World} {Y : YS} {l : List (Nat × OD)} (h : KnAt y rb w2 Y l W) (hb : Below W.heap.size W W') : KnAt y rb w2 Y l W' :=
  ⟨h.t.below hb, tb_kept h.r hb, fun p hp => ⟨(h.o p hp).1, tb_kept (h.o p hp).2 hb⟩⟩
theorem KnAt.box {y : Yd} {rb : Nat} {w2 W : World} {Y : YS} {l : List (Nat × OD)} (h : KnAt y rb w2 Y l W) (o : OD) : KnAt y rb w2 Y ((W.heap.size, o) :: l) (W.alloc (.cells #[.int .u32 (o.pr : Int), .int .u32 (o.no : Int), .int .u32 (o.re : Int), .int .u32 (o.lo : Int)] 35)) := by
  have hb := tb_alloc_below W (.cells #[.int .u32 (o.pr : Int), .int .u32 (o.no : Int), .int .u32 (o.re : Int), .int .u32 (o.lo : Int)] 35)
  have h2 := h.below hb
  refine ⟨h2.t, h2.r, fun p hp => ?_⟩
  rcases List.mem_cons.1 hp with rfl | hp
  · exact ⟨fun hm => by have := (h.t.1.M_ge _ hm).2; omega, heap_alloc_new _ _⟩
  · exact h2.o p hp
theorem mvs_nil (w : World) : MvsAt w (.slice none 0 0) [] := ⟨⟨none, 0, rfl, Nat.le_refl _, by unfold maxLen; omega, .inl rfl⟩, fun i hi => absurd hi (by show ¬ i < 0; omega)⟩
theorem mvs_four (w w1 : World) (h : w1 = w.alloc (.cells #[.int .u8 0, .int .i64 0, .int .u8 1, .int .i64 2, .int .u8 8, .int .i64 1, .int .u8 4, .int .i64 1] 56)) : MvsAt w1 (.slice (some ⟨w.heap.size, 0, none⟩) 4 4) kM4 := by
  have K : w1.heap[w.heap.size]? = some (.cells #[.int .u8 0, .int .i64 0, .int .u8 1, .int .i64 2, .int .u8 8, .int .i64 1, .int .u8 4, .int .i64 1] 56 (0, 0)) := by rw [h]; exact heap_alloc_new _ _
  refine ⟨⟨_, 4, rfl, Nat.le_refl _, by unfold maxLen; omega, .inr ⟨w.heap.size, 0, rfl, heap_lt K, fun i hi j hj => ?_⟩⟩, fun i hi => ?_⟩
  · have hi0 : i = 0 ∨ i = 1 ∨ i = 2 ∨ i = 3 := by have : i < 4 := hi; omega
    have hj2 : j = 0 ∨ j = 1 := by omega
    rcases hi0 with rfl | rfl | rfl | rfl <;> rcases hj2 with rfl | rfl
    · exact cell_row (j := 0) K rfl
    · exact cell_row (j := 1) K rfl
    · exact cell_row (j := 2) K rfl
    · exact cell_row (j := 3) K rfl
    · exact cell_row (j := 4) K rfl
    · exact cell_row (j := 5) K rfl
    · exact cell_row (j := 6) K rfl
    · exact cell_row (j := 7) K rfl
  · have hi0 : i = 0 ∨ i = 1 ∨ i = 2 ∨ i = 3 := by have : i < 4 := hi; omega
    rcases hi0 with rfl | rfl | rfl | rfl <;> exact ⟨by decide, by decide, by decide⟩
set_option maxRecDepth 100000 in
set_option maxHeartbeats 32000000 in
theorem yknown_in (n : Nat) (w : World) : CallsIn Fence.wide (n + 4) Try.prog 6 #[] w fun e w' => e = .returned (.bool true) ∧ Below w.heap.size w w' := by
  refine callsIn_of_wp_marks Try.func6 rfl trivial ?_ rfl
  simp only [Try.ntmps6, List.size_toArray, List.length_cons, List.length_nil, Nat.reduceAdd, Nat.reduceSub, Array.replicate_succ, Array.replicate_zero, List.push_toArray, List.append_toArray, List.nil_append, List.cons_append]
  gi_wp2_with (fail)
  obtain ⟨w0, hw0⟩ : ∃ w0, w0 = w.alloc (.cells #[.bool false] 4) := ⟨_, rfl⟩
  rw [← hw0]
  have B0 : Hid (Below w.heap.size w w0) := by rw [hw0]; exact alloc_below _ _
  have R0 : Hid (w0.heap[w.heap.size]? = some (.cells #[.bool false] 4 (0, 0))) := by rw [hw0]; exact heap_alloc_new _ _
  clear hw0
  obtain ⟨rb, hrb⟩ : ∃ b, b = w.heap.size := ⟨_, rfl⟩
  have HRB := Lib.hid hrb
  rw [← hrb] at R0 ⊢
  clear hrb
  refine ⟨trivial, (callsIn_wide.2 (two_any w0)).mono ?_⟩
  rintro e w1 ⟨v, rfl, hv, hb1⟩
  have B1 : Hid (Below w.heap.size w w1) := B0.out.trans (hb1.mono B0.out.size)
  have R1 := Lib.hid (tb_kept R0.out hb1)
  have HBIG : Hid (∀ r ∈ twoT.rts, r.pts.length ≤ 1000000) := fun r hr => by rcases List.mem_cons.1 hr with rfl | hr; (· decide); (· rcases List.mem_cons.1 hr with rfl | hr; (· decide); (· cases hr))
  have HN := Lib.hid (ynew_any v twoT 1 w1 hv ⟨by decide, by decide⟩ HBIG.out (fun _ => two_tok))
  clear hb1 hv R0 B0
  gi_wp2_with (fail)
  refine ⟨trivial, (callsIn_wide.2 (HN.out)).mono ?_⟩
  rintro e w2 ⟨hb2, hif⟩
  rw [if_pos two_check, if_pos ⟨by omega, by omega⟩] at hif
  obtain ⟨y, rfl, hY, hyT, hyd, hyw, _⟩ := hif
  have hyd1 : y.d = 1 := by omega
  have hx : YCtx y := ⟨by rw [hyT]; exact two_check, by rw [hyT]; exact two_tok.1, by rw [hyT]; decide, by omega, by rw [hyT]; decide⟩
  have B2 : Hid (Below w.heap.size w w2) := B1.out.trans (hb2.mono B1.out.size)
  have K2 : Hid (KnAt y rb w2 ys0 [] w2) := ⟨TurnY.refl hY, tb_kept R1.out hb2, fun p hp => by cases hp⟩
  have HRM : Hid (¬ y.M rb) := fun h => by
    have h1 := (hY.M_ge _ h).1; have h2 := hY.ap.z; have h3 := heap_lt R1.out
    rw [hyw] at h2
    omega
  have HW : Hid (w.heap.size ≤ y.w0.heap.size) := by show _ ≤ _; rw [hyw]; exact B1.out.size
  have HFR : Hid (∀ W Y ms vl, YdAt W y Y → YFine twoT Y → MvsAt W vl ms → (∀ b off n c, vl = .slice (some ⟨b, off, none⟩) n c → 0 < ms.length → ¬ y.M b) → ms.length ≤ 1000 → Calls Try.prog 14 #[.pointer (some ⟨y.g, 0, none⟩), vl] W fun e w' =>
      (∃ ve, e = .returned (.tuple #[(frameY twoT 1 Y ms).L.val, ve]) ∧ IntsAt w' ve (intE (errsY twoT Y ms)) ∧ ∀ b o k c, ve = .slice (some ⟨b, o, none⟩) k c → W.heap.size ≤ b) ∧ TurnY y W (frameY twoT 1 Y ms) w') := fun W Y ms vl h1 h2 h3 h4 h5 => by
    have := yframe_any y Y ms vl W h1 hx.hc hx.tok hx.tk hx.d (by rw [hyT]; exact h2) h3 h4 h5
    rw [hyT, hyd1] at this
    exact this
  have HPT : Hid (∀ W Y, YdAt W y Y → Calls Try.prog 20 #[.pointer (some ⟨y.g, 0, none⟩), .int .i64 0] W fun e w' => e = .returned (.int .u8 (pointI 1 Y.pn 0 : Int)) ∧ w' = W) := fun W Y h1 => by
    have := ypoint_any y Y 0 W h1 (by rw [hyT]; decide)
    rw [hyT] at this
    exact this
  have HYT := Lib.hid hyT; have HX := Lib.hid hx; have HYD := Lib.hid hY
  clear hb2 hY hyT hyd hyw hyd1 hx HN R1
  gi_wp2_with (fail)
  refine ⟨trivial, (callsIn_wide.2 (yworks_any w2)).mono ?_⟩
  rintro e w3 ⟨rfl, hb⟩
  have K3 := Lib.hid (K2.out.below hb)
  clear hb K2
  obtain ⟨w4, hw4⟩ : ∃ x, x = w3.alloc (.cells #[.int .u8 1, .int .i64 1] 56) := ⟨_, rfl⟩
  have K4 : Hid (KnAt y rb w2 ys0 [] w4) := by rw [hw4]; exact K3.out.below (alloc_below _ _)
  have HM4 := Lib.hid (mvs_one w3 w4 1 1 hw4 (by omega) ⟨by omega, by omega⟩)
  have HO4 : Hid (¬ y.M w3.heap.size) := fun h => by have := (K3.out.t.1.M_ge _ h).2; omega
  have HW4 := Lib.hid hw4
  clear hw4
  gi_wp2_with (fail)
  rw [← HW4.out]
  refine ⟨trivial, (callsIn_wide.2 (HFR.out w4 ys0 [⟨1, 1⟩] _ K4.out.t.1 (yfine0 twoT) HM4.out (fun b off m c e _ hb => by cases e; exact HO4.out hb) (by decide))).mono ?_⟩
  rintro e w5 ⟨⟨v5, rfl, -, -⟩, hk⟩
  have K5 : Hid (KnAt y rb w2 kS1 [] w5) := K4.out.turn HRM.out hk
  rw [show (frameY twoT 1 ys0 [⟨1, 1⟩]).L.val = .agg #[.int .u32 0, .int .u32 0, .int .u32 1, .int .u32 2] from congrArg OD.val kL1]
  have hbox := K5.out.box ⟨0, 0, 1, 2⟩
  obtain ⟨w6, hw6⟩ : ∃ x, x = w5.alloc (.cells #[.int .u32 0, .int .u32 0, .int .u32 1, .int .u32 2] 35) := ⟨_, rfl⟩
  have K6 : Hid (KnAt y rb w2 kS1 [(w5.heap.size, ⟨0, 0, 1, 2⟩)] w6) := by rw [hw6]; exact hbox
  have HW6 := Lib.hid hw6
  clear hw6 hbox hk HW4 HM4 HO4 K4 K3
  gi_wp2_with (fail)
  rw [← HW6.out]
  refine ⟨trivial, (callsIn_wide.2 (HPT.out w6 kS1 K6.out.t.1)).mono ?_⟩
  rintro e w7 ⟨rfl, rfl⟩
  rw [kP1]
  obtain ⟨b6, hb6⟩ : ∃ b, b = w5.heap.size := ⟨_, rfl⟩
  rw [← hb6] at K6 ⊢
  clear hb6 HW6 K5
  gi_wp2_with (fail)
  refine ⟨trivial, (callsIn_wide.2 (HFR.out w7 kS1 [] _ K6.out.t.1 kf1 (mvs_nil _) (fun b off m c e => by cases e) (by decide))).mono ?_⟩
  rintro e w8 ⟨⟨v8, rfl, -, -⟩, hk⟩
  have K8 : Hid (KnAt y rb w2 kS2 [(b6, ⟨0, 0, 1, 2⟩)] w8) := K6.out.turn HRM.out hk
  rw [show (frameY twoT 1 kS1 []).L.val = .agg #[.int .u32 0, .int .u32 0, .int .u32 1, .int .u32 2] from congrArg OD.val kL2]
  have hbox := K8.out.box ⟨0, 0, 1, 2⟩
  obtain ⟨w9, hw9⟩ : ∃ x, x = w8.alloc (.cells #[.int .u32 0, .int .u32 0, .int .u32 1, .int .u32 2] 35) := ⟨_, rfl⟩
  obtain ⟨b8, hb8⟩ : ∃ b, b = w8.heap.size := ⟨_, rfl⟩
  have K9 : Hid (KnAt y rb w2 kS2 [(b8, ⟨0, 0, 1, 2⟩), (b6, ⟨0, 0, 1, 2⟩)] w9) := by rw [hw9, hb8]; exact hbox
  have HW9 := Lib.hid hw9; have HB8 := Lib.hid hb8
  clear hw9 hb8 hbox hk K6
  gi_wp2_with (fail)
  rw [← HW9.out, ← HB8.out]
  refine ⟨trivial, (callsIn_wide.2 (HPT.out w9 kS2 K9.out.t.1)).mono ?_⟩
  rintro e w10 ⟨rfl, rfl⟩
  rw [kP2]
  clear HW9 HB8 K8
  gi_wp2_with (fail)
  refine ⟨trivial, (callsIn_wide.2 (HFR.out w10 kS2 [] _ K9.out.t.1 kf2 (mvs_nil _) (fun b off m c e => by cases e) (by decide))).mono ?_⟩
  rintro e w11 ⟨⟨v11, rfl, -, -⟩, hk⟩
  have K11 : Hid (KnAt y rb w2 kS3 [(b8, ⟨0, 0, 1, 2⟩), (b6, ⟨0, 0, 1, 2⟩)] w11) := K9.out.turn HRM.out hk
  rw [show (frameY twoT 1 kS2 []).L.val = .agg #[.int .u32 2, .int .u32 0, .int .u32 1, .int .u32 2] from congrArg OD.val kL3]
  have hbox := K11.out.box ⟨2, 0, 1, 2⟩
  obtain ⟨w12, hw12⟩ : ∃ x, x = w11.alloc (.cells #[.int .u32 2, .int .u32 0, .int .u32 1, .int .u32 2] 35) := ⟨_, rfl⟩
  obtain ⟨b11, hb11⟩ : ∃ b, b = w11.heap.size := ⟨_, rfl⟩
  have K12 : Hid (KnAt y rb w2 kS3 [(b11, ⟨2, 0, 1, 2⟩), (b8, ⟨0, 0, 1, 2⟩), (b6, ⟨0, 0, 1, 2⟩)] w12) := by rw [hw12, hb11]; exact hbox
  have HW12 := Lib.hid hw12; have HB11 := Lib.hid hb11
  clear hw12 hb11 hbox hk K9
  gi_wp2_with (fail)
  rw [← HW12.out, ← HB11.out]
  refine ⟨trivial, (callsIn_wide.2 (HPT.out w12 kS3 K12.out.t.1)).mono ?_⟩
  rintro e w13 ⟨rfl, rfl⟩
  rw [kP3]
  clear HW12 HB11 K11
  obtain ⟨w14, hw14⟩ : ∃ x, x = w13.alloc (.cells #[.int .u8 0, .int .i64 0, .int .u8 1, .int .i64 2, .int .u8 8, .int .i64 1, .int .u8 4, .int .i64 1] 56) := ⟨_, rfl⟩
  have K14 := Lib.hid (K12.out.below (W' := w14) (by rw [hw14]; exact alloc_below _ _))
  have HM14 := Lib.hid (mvs_four w13 w14 hw14)
  have HO14 : Hid (¬ y.M w13.heap.size) := fun h => by have := (K12.out.t.1.M_ge _ h).2; omega
  have HW14 := Lib.hid hw14
  clear hw14
  gi_wp2_with (fail)
  rw [← HW14.out]
  refine ⟨trivial, (callsIn_wide.2 (HFR.out w14 kS3 kM4 _ K14.out.t.1 kf3 HM14.out (fun b off m c e _ hb => by cases e; exact HO14.out hb) (by decide))).mono ?_⟩
  rintro e w15 ⟨⟨v15, rfl, hin, -⟩, hk⟩
  have K15 : Hid (KnAt y rb w2 kS4 [(b11, ⟨2, 0, 1, 2⟩), (b8, ⟨0, 0, 1, 2⟩), (b6, ⟨0, 0, 1, 2⟩)] w15) := K14.out.turn HRM.out hk
  rw [kE4] at hin
  have HIN := Lib.hid hin
  obtain ⟨o15, ho15⟩ : ∃ o, o = (frameY twoT 1 kS3 kM4).L := ⟨_, rfl⟩
  rw [← ho15]
  clear hin hk ho15 HW14 HM14 HO14 K14 K12
  obtain ⟨pr, no, re, lo⟩ := o15
  unfold OD.val
  obtain ⟨w16, hw16⟩ : ∃ x, x = w15.alloc (.cells #[.int .u32 (pr : Int), .int .u32 (no : Int), .int .u32 (re : Int), .int .u32 (lo : Int)] 35) := ⟨_, rfl⟩
  have B1516 : Hid (Below w15.heap.size w15 w16) := by rw [hw16]; exact alloc_below _ _
  have K16 := Lib.hid (K15.out.below B1516.out)
  have HIN16 := Lib.hid (HIN.out.below B1516.out)
  have HW16 := Lib.hid hw16
  clear hw16 B1516 K15 HIN
  have HN2 := Lib.hid (ynew_any (.agg #[.int .i64 0, .slice none 0 0, .int .i64 0, .slice none 0 0]) zT 1 w16 (zT_at w16) ⟨by decide, by decide⟩ (fun r hr => by cases hr) (fun h => by rw [zT_check] at h; cases h))
  gi_wp2_with (fail)
  rw [← HW16.out]
  refine ⟨trivial, (callsIn_wide.2 (HN2.out)).mono ?_⟩
  rintro e w17 ⟨hb17, hif⟩
  rw [zT_check, if_neg (by decide)] at hif
  subst hif
  have K17 := Lib.hid (K16.out.below hb17)
  have HIN17 := Lib.hid (HIN16.out.below hb17)
  clear hb17 HN2 HW16 K16 HIN16
  gi_wp2_with (fail)
  refine ⟨trivial, (callsIn_wide.2 (two_any w17)).mono ?_⟩
  rintro e w18 ⟨v2, rfl, hv2, hb18⟩
  have K18 := Lib.hid (K17.out.below hb18)
  have HIN18 := Lib.hid (HIN17.out.below hb18)
  have HN3 := Lib.hid (ynew_any v2 twoT 101 w18 hv2 ⟨by decide, by decide⟩ HBIG.out (fun _ => two_tok))
  clear hb18 hv2 K17 HIN17
  gi_wp2_with (fail)
  refine ⟨trivial, (callsIn_wide.2 (HN3.out)).mono ?_⟩
  rintro e w19 ⟨hb19, hif⟩
  rw [if_pos two_check, if_neg (by omega)] at hif
  subst hif
  have K19 := Lib.hid (K18.out.below hb19)
  have HIN19 := Lib.hid (HIN18.out.below hb19)
  clear hb19 HN3 K18 HIN18
  obtain ⟨w20, hw20⟩ : ∃ x, x = w19.alloc (.cells #[.int .u8 1, .int .i64 0] 56) := ⟨_, rfl⟩
  have B20 : Hid (Below w19.heap.size w19 w20) := by rw [hw20]; exact alloc_below _ _
  have K20 := Lib.hid (K19.out.below B20.out)
  have HIN20 := Lib.hid (HIN19.out.below B20.out)
  have HW20 := Lib.hid hw20
  clear hw20 B20
  gi_wp2_with (fail)
  rw [← HW20.out]
  refine ⟨trivial, (callsIn_wide.2 (yframe_nil _ w20)).mono ?_⟩
  rintro e w21 ⟨rfl, hb⟩
  rw [show od0.val = .agg #[.int .u32 0, .int .u32 0, .int .u32 0, .int .u32 0] from rfl]
  have K21 := Lib.hid (K20.out.below hb)
  have HIN21 := Lib.hid (HIN20.out.below hb)
  clear hb HW20 K20 HIN20 K19 HIN19
  have hbox := K21.out.box ⟨0, 0, 0, 0⟩
  obtain ⟨w22, hw22⟩ : ∃ x, x = w21.alloc (.cells #[.int .u32 0, .int .u32 0, .int .u32 0, .int .u32 0] 35) := ⟨_, rfl⟩
  obtain ⟨b21, hb21⟩ : ∃ b, b = w21.heap.size := ⟨_, rfl⟩
  have K22 : Hid (KnAt y rb w2 kS4 [(b21, ⟨0, 0, 0, 0⟩), (b11, ⟨2, 0, 1, 2⟩), (b8, ⟨0, 0, 1, 2⟩), (b6, ⟨0, 0, 1, 2⟩)] w22) := by rw [hw22, hb21]; exact hbox
  have HIN22 := Lib.hid (HIN21.out.below (w' := w22) (by rw [hw22]; exact alloc_below _ _))
  have HW22 := Lib.hid hw22; have HB21 := Lib.hid hb21
  clear hw22 hb21 hbox
  gi_wp2_with (fail)
  rw [← HW22.out, ← HB21.out]
  refine ⟨trivial, (callsIn_wide.2 (ywrong_nil w22)).mono ?_⟩
  rintro e w23 ⟨rfl, hb⟩
  have K23 := Lib.hid (K22.out.below hb)
  have HIN23 := Lib.hid (HIN22.out.below hb)
  clear hb HW22 HB21 K21 HIN21 K22 HIN22
  gi_wp2_with (fail)
  refine ⟨trivial, (callsIn_wide.2 (trains_any _ (.inl rfl) w23)).mono ?_⟩
  rintro e w24 ⟨rfl, hbx, hb⟩
  have K24 := Lib.hid (K23.out.below hb)
  have HIN24 := Lib.hid (HIN23.out.below hb)
  clear hb K23 HIN23
  gi_wp2_with (fail)
  have HQ := trains1_nil (n + 4 - 1) w23.heap.size w24 hbx
  have K24L : Hid (w.heap.size ≤ w24.heap.size) := Nat.le_trans B2.out.size K24.out.t.2.size
  refine rangeFunc_c (ps := #[91]) rfl (by omega) (gf := 27) (lb := #[.pointer (some ⟨w23.heap.size, 0, none⟩)]) rfl trivial (enters_of Try.func27 (by kernel_rfl) rfl)
    (Kb := fun _ => False) (N := 0) (fun b hb => hb.elim) HQ (fun _ => rfl)
    (fun x Fb W => Below w24.heap.size w24 W) (fun _ _ _ _ => False)
    (fun Fb s W W' row h hg hr => h.grown hg h.size (fun r e => (hr r e).1)) (fun _ _ s W W' row h _ _ => h.elim)
    (fun s Fb A W h hb => h.trans (hb.mono h.size)) (fun _ _ _ _ _ h _ => h.elim)
    (fun A hA => hA) ?_ ?assign ?body ?done ?stop
  case assign =>
    intro l x W K hK
    gi_wp2
    exact hK
  case stop => intro D c x Fb W _ _ _ h; exact h.elim
  case body => intro l x Fb W hx; exact absurd hx (by omega)
  case done =>
    intro D Fb W hD hW hK
    have K25 := Lib.hid (K24.out.below hW)
    have HIN25 := Lib.hid (HIN24.out.below hW)
    have HDW := Lib.hid hK
    have HDN : Hid (D ≠ rb) := fun e => by have := heap_lt K24.out.r; omega
    clear hW hK K24 HIN24 HQ hbx
    obtain ⟨⟨ia, ic, hie, hil, him, his⟩, _⟩ := HIN25.out
    obtain ⟨ib, ioff, rfl, hib, hix⟩ := his.at (by decide)
    subst hie
    have i0 : W.cell? ⟨ib, ioff, none⟩ = some (.int .i64 2) := hix 0 (by decide)
    have i1 : W.cell? ⟨ib, ioff + 1, none⟩ = some (.int .i64 4) := hix 1 (by decide)
    have i2 : W.cell? ⟨ib, ioff + 2, none⟩ = some (.int .i64 4) := hix 2 (by decide)
    have i3 : W.cell? ⟨ib, ioff + 3, none⟩ = some (.int .i64 4) := hix 3 (by decide)
    have o1 := (K25.out.o (b21, ⟨0, 0, 0, 0⟩) (by simp)).2
    have o2 := (K25.out.o (b11, ⟨2, 0, 1, 2⟩) (by simp)).2
    have o3 := (K25.out.o (b8, ⟨0, 0, 1, 2⟩) (by simp)).2
    have o4 := (K25.out.o (b6, ⟨0, 0, 1, 2⟩) (by simp)).2
    have o10 := cell_row (j := 0) o1 rfl; have o11 := cell_row (j := 1) o1 rfl; have o12 := cell_row (j := 2) o1 rfl; have o13 := cell_row (j := 3) o1 rfl; have o1l := heap_lt o1
    have o20 := cell_row (j := 0) o2 rfl; have o21 := cell_row (j := 1) o2 rfl; have o22 := cell_row (j := 2) o2 rfl; have o23 := cell_row (j := 3) o2 rfl; have o2l := heap_lt o2
    have o30 := cell_row (j := 0) o3 rfl; have o31 := cell_row (j := 1) o3 rfl; have o32 := cell_row (j := 2) o3 rfl; have o33 := cell_row (j := 3) o3 rfl; have o3l := heap_lt o3
    have o40 := cell_row (j := 0) o4 rfl; have o41 := cell_row (j := 1) o4 rfl; have o42 := cell_row (j := 2) o4 rfl; have o43 := cell_row (j := 3) o4 rfl; have o4l := heap_lt o4
    clear hil him his hix o1 o2 o3 o4
    gi_wp2_with (fail)
    refine ⟨trivial, (callsIn_wide.2 (ypoint_nil 0 W)).mono ?_⟩
    rintro e w26 ⟨rfl, rfl⟩
    clear i0 i1 i2 i3 o10 o11 o12 o13 o1l o20 o21 o22 o23 o2l o30 o31 o32 o33 o3l o40 o41 o42 o43 o4l
    gi_wp2_with (fail)
    refine ⟨trivial, (callsIn_wide.2 (yroute_nil 0 w26)).mono ?_⟩
    rintro e w27 ⟨rfl, hb⟩
    rw [show rs0.val = .agg #[.int .u8 0, .int .u16 0, .int .u32 0, .int .u32 0] from rfl]
    have K27 := Lib.hid (K25.out.below hb)
    have HD27 : Hid (w27.heap[D]? = some (.deferred (some []))) := (hb.block _ (Array.getElem?_eq_some_iff.1 HDW.out).1).trans HDW.out
    clear hb K25 HDW HIN25
    gi_wp2_with (fail)
    refine ⟨trivial, (callsIn_wide.2 (yclear_nil 0 w27)).mono ?_⟩
    rintro e w28 ⟨rfl, hb⟩
    have K28 := Lib.hid (K27.out.below hb)
    have HD28 : Hid (w28.heap[D]? = some (.deferred (some []))) := (hb.block _ (Array.getElem?_eq_some_iff.1 HD27.out).1).trans HD27.out
    clear hb K27 HD27
    have z0 := cell_row (j := 0) K28.out.r rfl
    have zf0 : w28.frozen? ⟨rb, 0, none⟩ = false := frozen_of_row _ _ _ _ _ K28.out.r
    have lr := heap_lt K28.out.r
    gi_wp2_with (fail)
    have hK16 : (w28.setCell ⟨rb, 0, none⟩ (.bool true)).heap[D]? = some (.deferred (some [])) := (heap_setCell_other _ _ _ _ (by show ¬ _ = _; dsimp only; exact HDN.out)).trans HD28.out
    have hR16 : (w28.setCell ⟨rb, 0, none⟩ (.bool true)).heap[rb]? = some (.cells #[.bool true] 4 (0, 0)) := heap_setCell_same w28 rb 0 _ _ (.bool true) K28.out.r
    have hB16 : Below w.heap.size w (w28.setCell ⟨rb, 0, none⟩ (.bool true)) := (K28.out.t.toBelow B2.out HYD.out HW.out).setCell (p := ⟨rb, 0, none⟩) (Nat.le_of_eq HRB.out.symm) _
    generalize w28.setCell ⟨rb, 0, none⟩ (.bool true) = w16 at *
    clear z0 zf0 lr K28 HD28
    refine ⟨by simp, .inl ⟨_, _, rfl, run_takeDeferred hK16, ?_⟩⟩
    have hR17 : (w16.putObj D (.deferred none)).heap[rb]? = some (.cells #[.bool true] 4 (0, 0)) := (World.putObj_heap_other (Ne.symm HDN.out)).trans hR16
    have x0 := cell_row (j := 0) hR17 rfl
    have lx := heap_lt hR17
    have hB17 : Below w.heap.size w (w16.putObj D (.deferred none)) := hB16.grown (grownBy_putObj' w16 D (.deferred none)) hB16.size (fun j e => by
      cases e
      exact Nat.le_trans K24L hD)
    generalize w16.putObj D (.deferred none) = w17 at *
    refine ⟨.bool true, by simp [results, Try.f6, go_sem, x0, lx], rfl, hB17⟩
theorem yknown_any (w : World) : Calls Try.prog 6 #[] w fun e w' => e = .returned (.bool true) ∧ Below w.heap.size w w' :=
  (callsIn_wide (n := 4)).1 (yknown_in 0 w)
end Go.Proofs.Ytnjeiigdfdjccaa
