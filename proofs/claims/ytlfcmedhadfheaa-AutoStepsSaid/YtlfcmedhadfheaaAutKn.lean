/- AutoKnown. Printed by gen_autKn.py. -/
import Derived.Test.YtlfcmedhadfheaaAutW
import Derived.Test.YtlfcmedhadfheaaAutCp
namespace Go.Proofs.Ytlfcmedhadfheaa
open Go.RowKit
set_option linter.unusedVariables false
set_option linter.unusedSimpArgs false
def none0 : Tab := ⟨0, [], 0, []⟩
theorem none0_at (w : World) : TabAt w (.agg #[.int .i64 0, .slice none 0 0, .int .i64 0, .slice none 0 0]) none0 :=
  ⟨⟨_, _, rfl, ⟨⟨none, 0, rfl, Nat.le_refl _, Nat.zero_le _, .inl rfl⟩, fun i hi => absurd hi (Nat.not_lt_zero _)⟩, ⟨none, 0, fun _ _ => undef, rfl, Nat.le_refl _, Nat.zero_le _, .inl rfl, fun i hi => absurd hi (Nat.not_lt_zero _)⟩⟩, by unfold i64ok none0; decide, by unfold i64ok none0; decide⟩
theorem none0_check : checkE none0 = 260 := by decide +kernel
theorem AutoAt.notM {w : World} {u : Au} {S : AS} (h : AutoAt w u S) : ¬ u.M w.heap.size := fun hm => by
  have := h.rlt; have := h.pl
  rcases hm with h | h <;> omega
def StepsTo (u : Au) (S S' : AS) (a b : Value) : Prop := ∀ W, AutoAt W u S → Calls Try.prog 13 #[.pointer (some ⟨u.g, 0, none⟩), a] W fun e w' => e = .returned b ∧ AutoAt w' u S' ∧ Only u.M W w'
theorem steps_to {u : Au} {S : AS} (f : FD) (o : OD) (hu : u.T = twoT) (hS : S.Ok) (hf : f.Ok) (he : orderS twoT f (stepS twoT f S) = o) : StepsTo u S (stepS twoT f S) (.agg #[.int .u32 (f.cl : Int), .int .u32 (f.no : Int), .int .u32 (f.re : Int), .int .u32 (f.ak : Int), .int .u32 (f.ca : Int), .int .u32 (f.rq : Int)]) o.val := fun W hW => by
  refine (step_any u S f W hW hf (by rw [hu]; exact two_tok.1) hS).mono ?_
  rintro e V ⟨h1, h2, h3⟩
  rw [hu, he] at h1
  rw [hu] at h2
  exact ⟨h1, h2, h3⟩
def kS1 : AS := stepS twoT (fd 7 0 0 3 0 0) as0
theorem kO1 : orderS twoT (fd 7 0 0 3 0 0) kS1 = ⟨0, 1, 0, 1⟩ := by kernel_rfl
theorem kOk1 : kS1.Ok := stepS_ok two_tok.1 _ as0_ok
theorem kT1 {u : Au} (hu : u.T = twoT) : StepsTo u as0 kS1 (.agg #[.int .u32 7, .int .u32 0, .int .u32 0, .int .u32 3, .int .u32 0, .int .u32 0]) (.agg #[.int .u32 0, .int .u32 1, .int .u32 0, .int .u32 1]) := steps_to (fd 7 0 0 3 0 0) _ hu as0_ok ⟨by decide, by decide, by decide, by decide, by decide, by decide⟩ kO1
def kS2 : AS := stepS twoT (fd 7 0 0 0 1 0) kS1
theorem kO2 : orderS twoT (fd 7 0 0 0 1 0) kS2 = ⟨0, 1, 0, 0⟩ := by kernel_rfl
theorem kOk2 : kS2.Ok := stepS_ok two_tok.1 _ kOk1
theorem kT2 {u : Au} (hu : u.T = twoT) : StepsTo u kS1 kS2 (.agg #[.int .u32 7, .int .u32 0, .int .u32 0, .int .u32 0, .int .u32 1, .int .u32 0]) (.agg #[.int .u32 0, .int .u32 1, .int .u32 0, .int .u32 0]) := steps_to (fd 7 0 0 0 1 0) _ hu kOk1 ⟨by decide, by decide, by decide, by decide, by decide, by decide⟩ kO2
def kS3 : AS := stepS twoT (fd 7 0 0 0 0 2) kS2
theorem kO3 : orderS twoT (fd 7 0 0 0 0 2) kS3 = ⟨0, 0, 1, 2⟩ := by kernel_rfl
theorem kOk3 : kS3.Ok := stepS_ok two_tok.1 _ kOk2
theorem kT3 {u : Au} (hu : u.T = twoT) : StepsTo u kS2 kS3 (.agg #[.int .u32 7, .int .u32 0, .int .u32 0, .int .u32 0, .int .u32 0, .int .u32 2]) (.agg #[.int .u32 0, .int .u32 0, .int .u32 1, .int .u32 2]) := steps_to (fd 7 0 0 0 0 2) _ hu kOk2 ⟨by decide, by decide, by decide, by decide, by decide, by decide⟩ kO3
def kS4 : AS := stepS twoT (fd 6 0 1 0 2 0) kS3
theorem kO4 : orderS twoT (fd 6 0 1 0 2 0) kS4 = ⟨0, 0, 1, 2⟩ := by kernel_rfl
theorem kOk4 : kS4.Ok := stepS_ok two_tok.1 _ kOk3
theorem kT4 {u : Au} (hu : u.T = twoT) : StepsTo u kS3 kS4 (.agg #[.int .u32 6, .int .u32 0, .int .u32 1, .int .u32 0, .int .u32 2, .int .u32 0]) (.agg #[.int .u32 0, .int .u32 0, .int .u32 1, .int .u32 2]) := steps_to (fd 6 0 1 0 2 0) _ hu kOk3 ⟨by decide, by decide, by decide, by decide, by decide, by decide⟩ kO4
def kS5 : AS := stepS twoT (fd 6 0 1 0 0 0) kS4
theorem kO5 : orderS twoT (fd 6 0 1 0 0 0) kS5 = ⟨0, 0, 1, 0⟩ := by kernel_rfl
theorem kOk5 : kS5.Ok := stepS_ok two_tok.1 _ kOk4
theorem kT5 {u : Au} (hu : u.T = twoT) : StepsTo u kS4 kS5 (.agg #[.int .u32 6, .int .u32 0, .int .u32 1, .int .u32 0, .int .u32 0, .int .u32 0]) (.agg #[.int .u32 0, .int .u32 0, .int .u32 1, .int .u32 0]) := steps_to (fd 6 0 1 0 0 0) _ hu kOk4 ⟨by decide, by decide, by decide, by decide, by decide, by decide⟩ kO5
set_option maxRecDepth 100000 in
set_option maxHeartbeats 8000000 in
theorem known_any (w : World) :
    Calls Try.prog 7 #[] w fun e w' => e = .returned (.bool true) ∧ Below w.heap.size w w' := by
  have HTW := Lib.hid (two_any w)
  go_enter Try.func7, Try.ntmps7
  go_wp2_with fail
  refine HTW.out.mono ?_
  rintro e w1 ⟨v, rfl, hv, hb1⟩
  have B1 := Lib.hid hb1
  have HN := Lib.hid (new_any v twoT w1 hv (fun r hr => by rcases List.mem_cons.1 hr with rfl | hr; (· decide); (· rcases List.mem_cons.1 hr with rfl | hr; (· decide); (· cases hr))) (fun _ => two_tok))
  clear hb1 hv
  go_wp2_with fail
  refine HN.out.mono ?_
  rintro e w2 ⟨hb2, hif⟩
  rw [if_pos two_check] at hif
  obtain ⟨u, rfl, hA, hT, h0, _⟩ := hif
  have B2 := Lib.hid (B1.out.trans (hb2.mono B1.out.size))
  have HU := Lib.hid h0; have HT := Lib.hid hT
  have HUB : Hid (w.heap.size ≤ u.w0.heap.size) := Nat.le_trans B1.out.size h0
  obtain ⟨wa, hwa⟩ : ∃ wa : World, wa = w2 := ⟨_, rfl⟩
  rw [← hwa] at hA B2 ⊢
  have A0 := Lib.hid hA; have BB0 : Hid (Below w.heap.size w wa) := B2
  clear hb2 h0 hT hA hwa
  have HS1 := Lib.hid (kT1 HT.out)
  go_wp2_with fail
  refine (HS1.out _ A0.out).mono ?_
  rintro e ws1 ⟨rfl, hA, hO⟩
  have BS1 : Hid (Below w.heap.size w ws1) := Only.toBelow BB0.out hO (Au.M_lt hA HUB.out) BB0.out.size
  have NM1 : Hid (¬ u.M ws1.heap.size) := hA.notM
  go_upto_region 5 with fail
  obtain ⟨wn1, hwn⟩ : ∃ W, W = ws1.alloc (.cells #[.int .u32 0, .int .u32 1, .int .u32 0, .int .u32 1] 36) := ⟨_, rfl⟩
  rw [← hwn]
  have BN1 : Hid (Below ws1.heap.size ws1 wn1) := by rw [hwn]; exact tb_alloc_below _ _
  have BB1 : Hid (Below w.heap.size w wn1) := BS1.out.trans (BN1.out.mono BS1.out.size)
  have A1 := Lib.hid (hA.below BN1.out)
  obtain ⟨b1, hb⟩ : ∃ b, b = ws1.heap.size := ⟨_, rfl⟩
  have K1_1 : Hid (wn1.heap[b1]? = some (.cells #[.int .u32 0, .int .u32 1, .int .u32 0, .int .u32 1] 36 (0, 0))) := by rw [hwn, hb]; exact heap_alloc_new _ _
  have NB1 : Hid (¬ u.M b1) := by rw [hb]; exact NM1.out
  rw [← hb]
  clear hb hwn hA hO
  have HS2 := Lib.hid (kT2 HT.out)
  go_wp2_with fail
  refine (HS2.out _ A1.out).mono ?_
  rintro e ws2 ⟨rfl, hA, hO⟩
  have BS2 : Hid (Below w.heap.size w ws2) := Only.toBelow BB1.out hO (Au.M_lt hA HUB.out) BB1.out.size
  have NM2 : Hid (¬ u.M ws2.heap.size) := hA.notM
  have KS2_1 := Lib.hid ((hO.block _ (heap_lt K1_1.out) NB1.out).trans K1_1.out)
  go_upto_region 6 with fail
  obtain ⟨wn2, hwn⟩ : ∃ W, W = ws2.alloc (.cells #[.int .u32 0, .int .u32 1, .int .u32 0, .int .u32 0] 36) := ⟨_, rfl⟩
  rw [← hwn]
  have BN2 : Hid (Below ws2.heap.size ws2 wn2) := by rw [hwn]; exact tb_alloc_below _ _
  have BB2 : Hid (Below w.heap.size w wn2) := BS2.out.trans (BN2.out.mono BS2.out.size)
  have A2 := Lib.hid (hA.below BN2.out)
  obtain ⟨b2, hb⟩ : ∃ b, b = ws2.heap.size := ⟨_, rfl⟩
  have K2_2 : Hid (wn2.heap[b2]? = some (.cells #[.int .u32 0, .int .u32 1, .int .u32 0, .int .u32 0] 36 (0, 0))) := by rw [hwn, hb]; exact heap_alloc_new _ _
  have NB2 : Hid (¬ u.M b2) := by rw [hb]; exact NM2.out
  rw [← hb]
  have K2_1 := Lib.hid (tb_kept KS2_1.out BN2.out)
  clear hb hwn hA hO
  have HS3 := Lib.hid (kT3 HT.out)
  go_wp2_with fail
  refine (HS3.out _ A2.out).mono ?_
  rintro e ws3 ⟨rfl, hA, hO⟩
  have BS3 : Hid (Below w.heap.size w ws3) := Only.toBelow BB2.out hO (Au.M_lt hA HUB.out) BB2.out.size
  have NM3 : Hid (¬ u.M ws3.heap.size) := hA.notM
  have KS3_1 := Lib.hid ((hO.block _ (heap_lt K2_1.out) NB1.out).trans K2_1.out)
  have KS3_2 := Lib.hid ((hO.block _ (heap_lt K2_2.out) NB2.out).trans K2_2.out)
  go_upto_region 7 with fail
  obtain ⟨wn3, hwn⟩ : ∃ W, W = ws3.alloc (.cells #[.int .u32 0, .int .u32 0, .int .u32 1, .int .u32 2] 36) := ⟨_, rfl⟩
  rw [← hwn]
  have BN3 : Hid (Below ws3.heap.size ws3 wn3) := by rw [hwn]; exact tb_alloc_below _ _
  have BB3 : Hid (Below w.heap.size w wn3) := BS3.out.trans (BN3.out.mono BS3.out.size)
  have A3 := Lib.hid (hA.below BN3.out)
  obtain ⟨b3, hb⟩ : ∃ b, b = ws3.heap.size := ⟨_, rfl⟩
  have K3_3 : Hid (wn3.heap[b3]? = some (.cells #[.int .u32 0, .int .u32 0, .int .u32 1, .int .u32 2] 36 (0, 0))) := by rw [hwn, hb]; exact heap_alloc_new _ _
  have NB3 : Hid (¬ u.M b3) := by rw [hb]; exact NM3.out
  rw [← hb]
  have K3_1 := Lib.hid (tb_kept KS3_1.out BN3.out)
  have K3_2 := Lib.hid (tb_kept KS3_2.out BN3.out)
  clear hb hwn hA hO
  have HS4 := Lib.hid (kT4 HT.out)
  go_wp2_with fail
  refine (HS4.out _ A3.out).mono ?_
  rintro e ws4 ⟨rfl, hA, hO⟩
  have BS4 : Hid (Below w.heap.size w ws4) := Only.toBelow BB3.out hO (Au.M_lt hA HUB.out) BB3.out.size
  have NM4 : Hid (¬ u.M ws4.heap.size) := hA.notM
  have KS4_1 := Lib.hid ((hO.block _ (heap_lt K3_1.out) NB1.out).trans K3_1.out)
  have KS4_2 := Lib.hid ((hO.block _ (heap_lt K3_2.out) NB2.out).trans K3_2.out)
  have KS4_3 := Lib.hid ((hO.block _ (heap_lt K3_3.out) NB3.out).trans K3_3.out)
  go_upto_region 8 with fail
  obtain ⟨wn4, hwn⟩ : ∃ W, W = ws4.alloc (.cells #[.int .u32 0, .int .u32 0, .int .u32 1, .int .u32 2] 36) := ⟨_, rfl⟩
  rw [← hwn]
  have BN4 : Hid (Below ws4.heap.size ws4 wn4) := by rw [hwn]; exact tb_alloc_below _ _
  have BB4 : Hid (Below w.heap.size w wn4) := BS4.out.trans (BN4.out.mono BS4.out.size)
  have A4 := Lib.hid (hA.below BN4.out)
  obtain ⟨b4, hb⟩ : ∃ b, b = ws4.heap.size := ⟨_, rfl⟩
  have K4_4 : Hid (wn4.heap[b4]? = some (.cells #[.int .u32 0, .int .u32 0, .int .u32 1, .int .u32 2] 36 (0, 0))) := by rw [hwn, hb]; exact heap_alloc_new _ _
  have NB4 : Hid (¬ u.M b4) := by rw [hb]; exact NM4.out
  rw [← hb]
  have K4_1 := Lib.hid (tb_kept KS4_1.out BN4.out)
  have K4_2 := Lib.hid (tb_kept KS4_2.out BN4.out)
  have K4_3 := Lib.hid (tb_kept KS4_3.out BN4.out)
  clear hb hwn hA hO
  have HS5 := Lib.hid (kT5 HT.out)
  go_wp2_with fail
  refine (HS5.out _ A4.out).mono ?_
  rintro e ws5 ⟨rfl, hA, hO⟩
  have BS5 : Hid (Below w.heap.size w ws5) := Only.toBelow BB4.out hO (Au.M_lt hA HUB.out) BB4.out.size
  have NM5 : Hid (¬ u.M ws5.heap.size) := hA.notM
  have KS5_1 := Lib.hid ((hO.block _ (heap_lt K4_1.out) NB1.out).trans K4_1.out)
  have KS5_2 := Lib.hid ((hO.block _ (heap_lt K4_2.out) NB2.out).trans K4_2.out)
  have KS5_3 := Lib.hid ((hO.block _ (heap_lt K4_3.out) NB3.out).trans K4_3.out)
  have KS5_4 := Lib.hid ((hO.block _ (heap_lt K4_4.out) NB4.out).trans K4_4.out)
  go_upto_region 9 with fail
  obtain ⟨wn5, hwn⟩ : ∃ W, W = ws5.alloc (.cells #[.int .u32 0, .int .u32 0, .int .u32 1, .int .u32 0] 36) := ⟨_, rfl⟩
  rw [← hwn]
  have BN5 : Hid (Below ws5.heap.size ws5 wn5) := by rw [hwn]; exact tb_alloc_below _ _
  have BB5 : Hid (Below w.heap.size w wn5) := BS5.out.trans (BN5.out.mono BS5.out.size)
  have A5 := Lib.hid (hA.below BN5.out)
  obtain ⟨b5, hb⟩ : ∃ b, b = ws5.heap.size := ⟨_, rfl⟩
  have K5_5 : Hid (wn5.heap[b5]? = some (.cells #[.int .u32 0, .int .u32 0, .int .u32 1, .int .u32 0] 36 (0, 0))) := by rw [hwn, hb]; exact heap_alloc_new _ _
  have NB5 : Hid (¬ u.M b5) := by rw [hb]; exact NM5.out
  rw [← hb]
  have K5_1 := Lib.hid (tb_kept KS5_1.out BN5.out)
  have K5_2 := Lib.hid (tb_kept KS5_2.out BN5.out)
  have K5_3 := Lib.hid (tb_kept KS5_3.out BN5.out)
  have K5_4 := Lib.hid (tb_kept KS5_4.out BN5.out)
  clear hb hwn hA hO
  have HN0 := Lib.hid (new_any _ none0 wn5 (none0_at _) (fun r hr => by cases hr) (fun h => by rw [none0_check] at h; cases h))
  go_wp2_with fail
  refine HN0.out.mono ?_
  rintro e w3 ⟨hb3, hif⟩
  rw [if_neg (by rw [none0_check]; decide), none0_check] at hif
  subst hif
  have B3 := Lib.hid (BB5.out.trans (hb3.mono BB5.out.size))
  have L1 := Lib.hid (tb_kept K5_1.out hb3)
  have L2 := Lib.hid (tb_kept K5_2.out hb3)
  have L3 := Lib.hid (tb_kept K5_3.out hb3)
  have L4 := Lib.hid (tb_kept K5_4.out hb3)
  have L5 := Lib.hid (tb_kept K5_5.out hb3)
  clear hb3
  have HW := Lib.hid (works_any w3)
  go_wp2_with fail
  refine HW.out.mono ?_
  rintro e w4 ⟨rfl, hb4⟩
  have B4 := Lib.hid (B3.out.trans (hb4.mono B3.out.size))
  have M1 := tb_kept L1.out hb4
  have c1_0 := cell_row (j := 0) M1 rfl
  have c1_1 := cell_row (j := 1) M1 rfl
  have c1_2 := cell_row (j := 2) M1 rfl
  have c1_3 := cell_row (j := 3) M1 rfl
  have l1 := heap_lt M1
  have M2 := tb_kept L2.out hb4
  have c2_0 := cell_row (j := 0) M2 rfl
  have c2_1 := cell_row (j := 1) M2 rfl
  have c2_2 := cell_row (j := 2) M2 rfl
  have c2_3 := cell_row (j := 3) M2 rfl
  have l2 := heap_lt M2
  have M3 := tb_kept L3.out hb4
  have c3_0 := cell_row (j := 0) M3 rfl
  have c3_1 := cell_row (j := 1) M3 rfl
  have c3_2 := cell_row (j := 2) M3 rfl
  have c3_3 := cell_row (j := 3) M3 rfl
  have l3 := heap_lt M3
  have M4 := tb_kept L4.out hb4
  have c4_0 := cell_row (j := 0) M4 rfl
  have c4_1 := cell_row (j := 1) M4 rfl
  have c4_2 := cell_row (j := 2) M4 rfl
  have c4_3 := cell_row (j := 3) M4 rfl
  have l4 := heap_lt M4
  have M5 := tb_kept L5.out hb4
  have c5_0 := cell_row (j := 0) M5 rfl
  have c5_1 := cell_row (j := 1) M5 rfl
  have c5_2 := cell_row (j := 2) M5 rfl
  have c5_3 := cell_row (j := 3) M5 rfl
  have l5 := heap_lt M5
  clear hb4 M1 M2 M3 M4 M5
  have HS0 := Lib.hid (step_nil (.pointer none) (fd 0 0 0 1 0 0) w4)
  go_wp2_with fail
  refine HS0.out.mono ?_
  rintro e w5 ⟨rfl, hb5⟩
  have B5 := Lib.hid (B4.out.trans (hb5.mono B4.out.size))
  clear hb5
  have HC0 := Lib.hid (copy_nil w5)
  have hod : od0.val = .agg #[.int .u32 0, .int .u32 0, .int .u32 0, .int .u32 0] := rfl
  rw [hod]
  go_wp2_with fail
  refine HC0.out.mono ?_
  rintro e w6 ⟨rfl, rfl⟩
  have HR0 := Lib.hid (route_nil 0 w5)
  go_wp2_with fail
  refine HR0.out.mono ?_
  rintro e w7 ⟨rfl, hb7⟩
  have B7 := Lib.hid (B5.out.trans (hb7.mono B5.out.size))
  clear hb7
  have hrd : rs0.val = .agg #[.int .u8 0, .int .u16 0, .int .u32 0, .int .u32 0] := rfl
  rw [hrd]
  go_wp2_with fail
  go_ret
  exact ⟨rfl, B7.out⟩
end Go.Proofs.Ytlfcmedhadfheaa
