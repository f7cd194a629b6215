/- YardSignals, walked. -/
import Derived.Test.YtnjeiigdfdjccaaYrdSg
import Derived.Sort.BigQuietIn
import Derived.Sort.QuietIn
namespace Go.Proofs.Ytnjeiigdfdjccaa
open Go.RowKit Go.Shelf
set_option linter.unusedVariables false
set_option linter.unusedSimpArgs false
attribute [local go_sem] Oper.semAt_some
set_option maxRecDepth 100000 in
set_option maxHeartbeats 32000000 in
theorem ysignals_in (n : Nat) (v vl : Value) (T : Tab) (d : Int) (ls : List (List MV)) (w : World) (hT : TabAt w v T) (hsm : TSm T) (hd : i64ok d) (hl : MssAt w vl ls) :
    CallsIn Fence.wide (n + 4) Try.prog 3 #[v, .int .i64 d, vl] w fun e w' => e = .returned (.bool true) ∧ Below w.heap.size w w' := by
  have HT0 := Lib.hid hT
  obtain ⟨⟨vp, vr, rfl, hP, hr⟩, _, _⟩ := hT
  obtain ⟨a, c, C0, rfl, hlc, hcm, _⟩ := hr.at_
  obtain ⟨⟨va, vc, rfl, hvl, hvm, _⟩, _⟩ := id hP
  have HLS := Lib.hid hl
  obtain ⟨⟨la, lc, V, rfl, hl1, hl2, hls, hlv⟩, hz1, hz2⟩ := hl
  obtain ⟨w1, hw1⟩ : ∃ w1, w1 = (w.alloc (.cells #[.int .i64 T.tracks, .slice va T.pts.length vc, .int .i64 T.sigs, .slice a T.rts.length c] 25)).alloc (.cells #[.bool false] 4) := ⟨_, rfl⟩
  have hz : (w.alloc (.cells #[.int .i64 T.tracks, .slice va T.pts.length vc, .int .i64 T.sigs, .slice a T.rts.length c] 25)).heap.size = w.heap.size + 1 := Array.size_push _
  have B1 : Hid (Below w.heap.size w w1) := by rw [hw1]; exact (alloc_below _ _).alloc (alloc_below w (.cells #[.int .i64 T.tracks, .slice va T.pts.length vc, .int .i64 T.sigs, .slice a T.rts.length c] 25)).size _
  have K1 : Hid (w1.heap[w.heap.size]? = some (.cells #[.int .i64 T.tracks, .slice va T.pts.length vc, .int .i64 T.sigs, .slice a T.rts.length c] 25 (0, 0))) := by rw [hw1]; exact tb_kept (heap_alloc_new _ _) (alloc_below _ _)
  have R1 : Hid (w1.heap[w.heap.size + 1]? = some (.cells #[.bool false] 4 (0, 0))) := by rw [hw1, ← hz]; exact heap_alloc_new _ _
  have HW1 := Lib.hid hw1; have HZ1 := Lib.hid hz
  have HSM := Lib.hid hsm; have HD := Lib.hid hd; have HP := Lib.hid hP; have HR := Lib.hid hr
  have HHO : Hid (∀ n, n < T.rts.length → (T.rts.getD n rt0).hold < 65536) := fun n hn => by
    obtain ⟨_, _, _, _, _, _, _, hR⟩ := hr.at_
    exact (hR n hn).holdOk
  have HSL := Lib.hid hls; have HLV := Lib.hid hlv
  have hd0 := hd.1; have hd1 := hd.2
  unfold maxLen at hl2 hcm hvm
  clear hw1 hP hr hls hlv hz2 hsm hd hz
  refine callsIn_of_wp_marks Try.func3 rfl trivial ?_ rfl
  simp only [Try.ntmps3, List.size_toArray, List.length_cons, List.length_nil, Nat.reduceAdd, Nat.reduceSub, Array.replicate_succ, Array.replicate_zero, List.push_toArray, List.append_toArray, List.nil_append, List.cons_append]
  gi_upto_region 1 with (fail)
  rw [← HW1.out]
  obtain ⟨kb, hkb⟩ : ∃ b, b = w.heap.size := ⟨_, rfl⟩
  have HKB := Lib.hid hkb
  rw [← hkb] at K1 R1 ⊢
  obtain ⟨rb, hrb⟩ : ∃ b, b = kb + 1 := ⟨_, rfl⟩
  have HRB := Lib.hid hrb
  rw [← hrb] at R1 ⊢
  clear hkb hrb HW1 HZ1
  gi_wp2_with (fail)
  refine ⟨trivial, (callsIn_wide.2 (yworks_any w1)).mono ?_⟩
  rintro e w2 ⟨rfl, hb⟩
  have B2 : Hid (Below w.heap.size w w2) := B1.out.trans (hb.mono B1.out.size)
  have K2 := Lib.hid (tb_kept K1.out hb); have R2 := Lib.hid (tb_kept R1.out hb)
  clear hb B1 K1 R1
  have c0 := cell_row (j := 0) K2.out rfl; have c1 := cell_row (j := 1) K2.out rfl; have c2 := cell_row (j := 2) K2.out rfl; have c3 := cell_row (j := 3) K2.out rfl
  have lk := heap_lt K2.out
  have HHV := Lib.hid (yheavy_any (.agg #[.int .i64 T.tracks, .slice va T.pts.length vc, .int .i64 T.sigs, .slice a T.rts.length c]) (.slice la ls.length lc) T ls w2 (HT0.out.below B2.out) HSM.out (HLS.out.below B2.out))
  have HHB := Lib.hid (heavy_no (T := T) (ls := ls))
  generalize heavyB T ls = F at *
  gi_wp2_with (fail)
  refine ⟨trivial, (callsIn_wide.2 (HHV.out)).mono ?_⟩
  rintro e w3 ⟨rfl, hb⟩
  have B3 : Hid (Below w.heap.size w w3) := B2.out.trans (hb.mono B2.out.size)
  have K3 := Lib.hid (tb_kept K2.out hb); have R3 := Lib.hid (tb_kept R2.out hb)
  clear hb B2 K2 HHV c0 c1 c2 c3 lk R2
  cases F
  case true =>
    gi_wp2_with (fail)
    refine ⟨trivial, (callsIn_wide.2 (yworks_any w3)).mono ?_⟩
    rintro e wE ⟨rfl, hbE⟩
    have BE := Lib.hid (B3.out.trans (hbE.mono (B3.out).size))
    have RE := tb_kept R3.out hbE
    clear hbE
    have z0 := cell_row (j := 0) RE rfl
    have zf0 : wE.frozen? ⟨rb, 0, none⟩ = false := frozen_of_row _ _ _ _ _ RE
    have lr := heap_lt RE
    clear RE
    gi_wp2_with (fail)
    exact ⟨.bool true, by simp [results, Try.f3, go_sem, z0, lr], rfl, BE.out.setCell (p := ⟨rb, 0, none⟩) (by have := HKB.out; have := HRB.out; show _ ≤ rb; omega) _⟩
  case false =>
  obtain ⟨hgr, htot⟩ := HHB.out rfl
  have HSS := Lib.hid (small_of hgr)
  have HTT := Lib.hid htot
  clear hgr htot HHB
  have c0 := cell_row (j := 0) K3.out rfl; have c1 := cell_row (j := 1) K3.out rfl; have c2 := cell_row (j := 2) K3.out rfl; have c3 := cell_row (j := 3) K3.out rfl
  have lk := heap_lt K3.out
  have HN := Lib.hid (ynew_any (.agg #[.int .i64 T.tracks, .slice va T.pts.length vc, .int .i64 T.sigs, .slice a T.rts.length c]) T d w3 (HT0.out.below B3.out) HD.out HSS.out.big (fun h => tok_of h HHO.out))
  gi_wp2_with (fail)
  refine ⟨trivial, (callsIn_wide.2 (HN.out)).mono ?_⟩
  rintro e w4 ⟨hb, hif⟩
  have B4 : Hid (Below w.heap.size w w4) := B3.out.trans (hb.mono B3.out.size)
  have K4 := Lib.hid (tb_kept K3.out hb); have R4 := Lib.hid (tb_kept R3.out hb)
  clear hb HN c0 c1 c2 c3 lk
  by_cases hE : checkE T = 0
  case neg =>
    rw [if_neg hE] at hif
    subst hif
    have t2 : (checkE T != 0) = true := by simpa using hE
    clear hE
    generalize checkE T = E at *
    obtain ⟨w5, hw5⟩ : ∃ x, x = w4.alloc (.cells #[.pointer none] 29) := ⟨_, rfl⟩
    have B5 : Hid (Below w.heap.size w w5) := by rw [hw5]; exact B4.out.alloc (B4.out).size _
    have R5 : Hid (w5.heap[rb]? = some (.cells #[.bool false] 4 (0, 0))) := by rw [hw5]; exact tb_kept R4.out (alloc_below _ _)
    have HW5 := Lib.hid hw5
    clear hw5
    gi_wp2_with (fail)
    rw [← HW5.out]
    refine ⟨trivial, (callsIn_wide.2 (yworks_any w5)).mono ?_⟩
    rintro e wE ⟨rfl, hbE⟩
    have BE := Lib.hid (B5.out.trans (hbE.mono (B5.out).size))
    have RE := tb_kept R5.out hbE
    clear hbE
    have z0 := cell_row (j := 0) RE rfl
    have zf0 : wE.frozen? ⟨rb, 0, none⟩ = false := frozen_of_row _ _ _ _ _ RE
    have lr := heap_lt RE
    clear RE
    gi_wp2_with (fail)
    exact ⟨.bool true, by simp [results, Try.f3, go_sem, z0, lr], rfl, BE.out.setCell (p := ⟨rb, 0, none⟩) (by have := HKB.out; have := HRB.out; show _ ≤ rb; omega) _⟩
  case pos =>
  rw [if_pos hE] at hif
  by_cases hd2 : 0 ≤ d ∧ d ≤ 100
  case neg =>
    rw [if_neg hd2] at hif
    subst hif
    clear hE hd2
    obtain ⟨w5, hw5⟩ : ∃ x, x = w4.alloc (.cells #[.pointer none] 29) := ⟨_, rfl⟩
    have B5 : Hid (Below w.heap.size w w5) := by rw [hw5]; exact B4.out.alloc (B4.out).size _
    have R5 : Hid (w5.heap[rb]? = some (.cells #[.bool false] 4 (0, 0))) := by rw [hw5]; exact tb_kept R4.out (alloc_below _ _)
    have HW5 := Lib.hid hw5
    clear hw5
    gi_wp2_with (fail)
    rw [← HW5.out]
    refine ⟨trivial, (callsIn_wide.2 (yworks_any w5)).mono ?_⟩
    rintro e wE ⟨rfl, hbE⟩
    have BE := Lib.hid (B5.out.trans (hbE.mono (B5.out).size))
    have RE := tb_kept R5.out hbE
    clear hbE
    have z0 := cell_row (j := 0) RE rfl
    have zf0 : wE.frozen? ⟨rb, 0, none⟩ = false := frozen_of_row _ _ _ _ _ RE
    have lr := heap_lt RE
    clear RE
    gi_wp2_with (fail)
    exact ⟨.bool true, by simp [results, Try.f3, go_sem, z0, lr], rfl, BE.out.setCell (p := ⟨rb, 0, none⟩) (by have := HKB.out; have := HRB.out; show _ ≤ rb; omega) _⟩
  case pos =>
  rw [if_pos hd2] at hif
  obtain ⟨y, rfl, hY, hyT, hyd, hyw, _⟩ := hif
  have htk := tok_of hE HHO.out
  have hyd1 : y.d ≤ 100 := by omega
  have hx : YCtx y := ⟨by rw [hyT]; exact hE, by rw [hyT]; exact htk.1, by rw [hyT]; exact tracks_of hE, hyd1, by rw [hyT]; exact htk.2⟩
  have G4 : Hid (GwAt w kb rb #[.int .i64 T.tracks, .slice va T.pts.length vc, .int .i64 T.sigs, .slice a T.rts.length c] y ys0 w4) := ⟨⟨K4.out, hY, B4.out, by rw [hyw]; exact B3.out.size, by rw [hyw]; exact heap_lt K3.out⟩, R4.out, by rw [hyw]; exact heap_lt R3.out, by have := HKB.out; have := HRB.out; omega⟩
  have HX := Lib.hid hx; have HYT := Lib.hid hyT; have HCE := Lib.hid hE; have HTO := Lib.hid htk.1; have HN0 := Lib.hid htk.2
  clear hE hd2 hY hyT hyd hyw htk hyd1 hx K3 K4 B3 B4 R3 R4
  have htl := Nat.le_trans (totN_len ls) HTT.out
  have HFM : Hid (∀ W Y ms mv, YdAt W y Y → YFine T Y → MvsAt W mv ms → (∀ b off n c, mv = .slice (some ⟨b, off, none⟩) n c → 0 < ms.length → ¬ y.M b) → ms.length ≤ 1000 → Calls Try.prog 14 #[.pointer (some ⟨y.g, 0, none⟩), mv] W fun e w' =>
      (∃ ve, e = .returned (.tuple #[(frameY T y.d Y ms).L.val, ve]) ∧ IntsAt w' ve (intE (errsY T Y ms)) ∧ ∀ b o k c, ve = .slice (some ⟨b, o, none⟩) k c → W.heap.size ≤ b) ∧ TurnY y W (frameY T y.d Y ms) w') := fun W Y ms mv h1 h2 h3 h4 h5 => by
    have := yframe_any y Y ms mv W h1 HX.out.hc HX.out.tok HX.out.tk HX.out.d (by rw [HYT.out]; exact h2) h3 h4 h5
    rw [HYT.out] at this
    exact this
  obtain ⟨w5, hw5⟩ : ∃ x, x = w4.alloc (.cells #[.pointer (some ⟨y.g, 0, none⟩)] 29) := ⟨_, rfl⟩
  have G5 : Hid (GwAt w kb rb #[.int .i64 T.tracks, .slice va T.pts.length vc, .int .i64 T.sigs, .slice a T.rts.length c] y ys0 w5) := by rw [hw5]; exact G4.out.below (alloc_below _ _)
  have Y5 : Hid (w5.heap[w4.heap.size]? = some (.cells #[.pointer (some ⟨y.g, 0, none⟩)] 29 (0, 0))) := by rw [hw5]; exact heap_alloc_new _ _
  have HS5 : Hid (w5.heap.size = w4.heap.size + 1) := by show _ = _; rw [hw5]; exact Array.size_push _
  obtain ⟨w6, hw6⟩ : ∃ x, x = w5.alloc (.cells #[.int .u32 0, .int .u32 0, .int .u32 0, .int .u32 0] 35) := ⟨_, rfl⟩
  have G6 : Hid (GwAt w kb rb #[.int .i64 T.tracks, .slice va T.pts.length vc, .int .i64 T.sigs, .slice a T.rts.length c] y ys0 w6) := by rw [hw6]; exact G5.out.below (alloc_below _ _)
  have Y6 : Hid (w6.heap[w4.heap.size]? = some (.cells #[.pointer (some ⟨y.g, 0, none⟩)] 29 (0, 0))) := by rw [hw6]; exact kept Y5.out (alloc_below _ _)
  have O6 : Hid (w6.heap[w4.heap.size + 1]? = some (.cells #[.int .u32 0, .int .u32 0, .int .u32 0, .int .u32 0] 35 (0, 0))) := by rw [hw6, ← HS5.out]; exact heap_alloc_new _ _
  have HW5 := Lib.hid hw5; have HW6 := Lib.hid hw6
  clear hw5 hw6
  obtain ⟨yb, hyb⟩ : ∃ b, b = w4.heap.size := ⟨_, rfl⟩
  have HYB : Hid (OwnB y yb) := by
    have h1 := heap_lt G4.out.l.yd.au.obj
    have h2 := G4.out.l.yd.au.bel.size
    exact ⟨fun h => by have := (G4.out.l.yd.M_ge _ h).2; omega, by omega, by omega⟩
  obtain ⟨ob, hob⟩ : ∃ b, b = yb + 1 := ⟨_, rfl⟩
  have HOB : Hid (OwnB y ob) := by
    have h1 := heap_lt G4.out.l.yd.au.obj
    have h2 := G4.out.l.yd.au.bel.size
    exact ⟨fun h => by have := (G4.out.l.yd.M_ge _ h).2; omega, by omega, by omega⟩
  rw [← hyb] at Y6 O6
  rw [← hob] at O6
  have S60 : Hid (SgAt w kb rb #[.int .i64 T.tracks, .slice va T.pts.length vc, .int .i64 T.sigs, .slice a T.rts.length c] y yb ob (framesY T y.d ys0 (ls.take 0)) w6) := ⟨G6.out, Y6.out, O6.out⟩
  have HYO : Hid (yb < ob) := by show _ < _; omega
  have HYE := Lib.hid hyb; have HOE := Lib.hid hob
  clear hyb hob G4 G5 Y5 HS5 G6 Y6 O6
  gi_upto_region 9 with (fail)
  rw [← HW5.out, ← HW6.out, ← HYE.out, ← HOE.out]
  clear HW5 HW6 HYE HOE
  gi_upto_region 10 with (fail)
  refine wpIn_loop (fun a' W => ∃ (u : Nat → Value) (x : List Nat × Nat), (x.2 ≤ ls.length ∧ SgAt w kb rb #[.int .i64 T.tracks, .slice va T.pts.length vc, .int .i64 T.sigs, .slice a T.rts.length c] y yb ob (framesY T y.d ys0 (ls.take x.2)) W ∧ (∀ D ∈ x.1, W.heap[D]? = some (.deferred (some [])) ∧ ¬ y.M D ∧ D ≠ rb ∧ w.heap.size ≤ D) ∧ x.1.Nodup) ∧ a' = ⟨#[Value.agg #[Value.int IntKind.i64 T.tracks, Value.slice va T.pts.length vc, Value.int IntKind.i64 T.sigs, Value.slice a T.rts.length c], Value.int IntKind.i64 d, Value.slice la ls.length lc, Value.pointer (some { block := kb, off := 0 }), undef, undef, Value.pointer (some { block := rb, off := 0 }), Value.pointer (some { block := yb, off := 0 }), Value.int IntKind.i64 0, Value.pointer (some { block := ob, off := 0 }), u 10, u 11, u 12, u 13, u 14, u 15, u 16, u 17, u 18, u 19, u 20, u 21, u 22, u 23, u 24, u 25, Value.bool true, Value.bool false, Value.agg #[Value.int IntKind.i64 T.tracks, Value.slice va T.pts.length vc, Value.int IntKind.i64 T.sigs, Value.slice a T.rts.length c], Value.slice la ls.length lc, Value.bool false, undef, Value.tuple #[Value.pointer (some { block := y.g, off := 0 }), Value.int IntKind.i64 0], Value.agg #[Value.int IntKind.i64 T.tracks, Value.slice va T.pts.length vc, Value.int IntKind.i64 T.sigs, Value.slice a T.rts.length c], Value.int IntKind.i64 d, Value.tuple #[Value.pointer (some { block := y.g, off := 0 }), Value.int IntKind.i64 0], Value.pointer (some { block := y.g, off := 0 }), Value.int IntKind.i64 0, Value.int IntKind.i64 0, Value.bool false, undef, Value.slice la ls.length lc, Value.int IntKind.i64 ↑ls.length, Value.int IntKind.i64 (x.2 : Int), u 44, u 45, u 46, u 47, u 48, u 49, u 50, u 51, u 52, u 53, u 54, u 55, u 56, u 57, u 58, u 59, u 60, u 61, u 62, u 63, u 64, u 65, u 66, u 67, u 68, u 69, u 70, u 71, u 72, u 73, u 74, u 75, u 76, u 77, u 78, u 79, u 80, u 81, u 82, u 83, u 84, u 85, u 86, u 87, u 88, u 89, u 90, u 91, u 92, u 93, u 94, u 95, u 96, u 97, u 98, u 99, u 100, u 101, u 102, u 103, u 104, u 105, u 106, u 107, u 108, u 109, u 110, u 111, u 112, u 113, u 114, u 115, u 116, u 117, u 118, u 119, u 120, u 121, u 122, u 123, u 124, u 125, u 126, u 127, u 128, u 129, u 130, u 131, u 132, u 133, u 134, u 135, u 136, u 137, u 138, u 139, u 140, u 141, u 142, u 143, u 144, u 145, u 146, u 147, u 148, u 149, u 150, u 151, u 152, u 153, u 154, u 155, u 156, u 157, u 158, u 159, u 160, u 161, u 162, u 163, u 164, u 165, u 166, u 167, u 168, u 169, u 170, u 171, u 172, u 173, u 174, u 175], marks x.1⟩) (fun a' _ => ls.length - (intOf (a'.tmps.getD 43 undef)).toNat) ⟨fun _ => undef, ([], 0), ⟨Nat.zero_le _, S60.out, fun D hD => absurd hD (by simp), List.nodup_nil⟩, rfl⟩ ?_
  clear S60
  rintro a0 w5 ⟨u, ⟨ds, q⟩, ⟨hq, hs5, hds5, hnd⟩, rfl⟩
  dsimp only at hq hs5 hds5 hnd
  have S5 := Lib.hid hs5; have DS5 := Lib.hid hds5; have ND := Lib.hid hnd
  clear hs5 hds5 hnd
  by_cases hlt : q < ls.length
  case neg =>
    obtain rfl : ls.length = q := by omega
    gi_wp2_with (fail)
    refine ⟨trivial, (callsIn_wide.2 (yworks_any w5)).mono ?_⟩
    rintro e w9 ⟨rfl, hb⟩
    have G9 := Lib.hid (S5.out.g.below hb)
    have DS9 : Hid (∀ E ∈ ds, w9.heap[E]? = some (.deferred (some [])) ∧ ¬ y.M E ∧ E ≠ rb ∧ w.heap.size ≤ E) := fun E hE => ⟨kept (DS5.out E hE).1 hb, (DS5.out E hE).2⟩
    clear hb S5 DS5
    have z0 := cell_row (j := 0) G9.out.r rfl
    have zf0 : w9.frozen? ⟨rb, 0, none⟩ = false := frozen_of_row _ _ _ _ _ G9.out.r
    have lr := heap_lt G9.out.r
    gi_wp2_with (fail)
    have hK16 : ∀ E ∈ ds, (w9.setCell ⟨rb, 0, none⟩ (.bool true)).heap[E]? = some (.deferred (some [])) ∧ w.heap.size ≤ E ∧ E ≠ rb := fun E hE => ⟨(heap_setCell_other _ _ _ _ (by show ¬ _ = _; dsimp only; exact (DS9.out E hE).2.2.1)).trans (DS9.out E hE).1, (DS9.out E hE).2.2.2, (DS9.out E hE).2.2.1⟩
    have hR16 : (w9.setCell ⟨rb, 0, none⟩ (.bool true)).heap[rb]? = some (.cells #[.bool true] 4 (0, 0)) := heap_setCell_same w9 rb 0 _ _ (.bool true) G9.out.r
    have hB16 : Below w.heap.size w (w9.setCell ⟨rb, 0, none⟩ (.bool true)) := G9.out.l.b.setCell (p := ⟨rb, 0, none⟩) (by have := HKB.out; have := HRB.out; show _ ≤ rb; omega) _
    generalize w9.setCell ⟨rb, 0, none⟩ (.bool true) = w16 at *
    clear z0 zf0 lr G9 DS9
    refine leaves_marks ds w16 ND.out hK16 hR16 hB16 hB16.size fun w17 hR17 hB17 => ?_
    have x0 := cell_row (j := 0) hR17 rfl
    have lx := heap_lt hR17
    exact ⟨.bool true, by simp [results, Try.f3, go_sem, x0, lx], rfl, hB17⟩
  case pos =>
  have HFI := Lib.hid (yfine_frames (d := y.d) HCE.out HTO.out HX.out.d (ls.take q) ys0 (yfine0 T))
  have HTS := Lib.hid (framesY_snoc T y.d (ls.getD q []) (ls.take q) ys0)
  have hts := take_snoc ([] : List MV) hlt
  rw [← hts] at HTS
  have hxl := Nat.le_trans (totN_get hlt) HTT.out
  have HMV := Lib.hid (HLV.out q hlt)
  obtain ⟨⟨xa, xc, hxv, _⟩, _⟩ := HMV.out
  obtain ⟨lb, loff, rfl, hlb, hlx⟩ := (HSL.out.below S5.out.g.l.b).at (by omega)
  have x0 := hlx q hlt
  rw [hxv] at x0 HMV
  obtain ⟨ms, hms⟩ : ∃ x, x = ls.getD q [] := ⟨_, rfl⟩
  rw [← hms] at HMV HTS hxl x0
  obtain ⟨Y, hY⟩ : ∃ x, x = framesY T y.d ys0 (ls.take q) := ⟨_, rfl⟩
  rw [← hY] at HFI HTS S5
  clear hlx hxv hts hms hY
  dsimp only
  gi_upto_region 12 with (fail)
  clear x0 hlb
  obtain ⟨N, hN⟩ : ∃ m, m = T.rts.length := ⟨_, rfl⟩
  have HNN := Lib.hid hN
  have hN16 : N ≤ 16 := by rw [hN]; exact HTO.out.n
  clear hN
  have infoBo : (Try.prog.info? 4).map (fun i => (i.zero, i.size, i.bytes)) = some (some (.bool false), 1, 1) := by kernel_rfl
  have hmk := fun w => run_make_row' (P := Try.prog) 37 4 (.bool false) 1 Try.underlying37 infoBo rfl .i64 .i64 N (by omega) (by omega) w
  clear infoBo
  obtain ⟨hb, hhb⟩ : ∃ b, b = w5.heap.size := ⟨_, rfl⟩
  have HHB5 := Lib.hid hhb
  obtain ⟨w6, hw6⟩ : ∃ x, x = w5.alloc (.cells #[.slice none 0 0] 22) := ⟨_, rfl⟩
  obtain ⟨w7, hw7⟩ : ∃ x, x = w6.alloc (.cells (madeCells #[.bool false] N) 4) := ⟨_, rfl⟩
  obtain ⟨w8, hw8⟩ : ∃ x, x = w7.alloc (.cells #[.slice (some ⟨hb + 1, 0, none⟩) N N] 37) := ⟨_, rfl⟩
  obtain ⟨w9, hw9⟩ : ∃ x, x = w8.alloc (.cells (madeCells #[.bool false] N) 4) := ⟨_, rfl⟩
  obtain ⟨w10, hw10⟩ : ∃ x, x = w9.alloc (.cells #[.slice (some ⟨hb + 3, 0, none⟩) N N] 37) := ⟨_, rfl⟩
  have z6 : w6.heap.size = hb + 1 := by rw [hw6, hhb]; exact Array.size_push _
  have z7 : w7.heap.size = hb + 2 := by rw [hw7, show hb + 2 = w6.heap.size + 1 by omega]; exact Array.size_push _
  have z8 : w8.heap.size = hb + 3 := by rw [hw8, show hb + 3 = w7.heap.size + 1 by omega]; exact Array.size_push _
  have z9 : w9.heap.size = hb + 4 := by rw [hw9, show hb + 4 = w8.heap.size + 1 by omega]; exact Array.size_push _
  have b6 : Below w5.heap.size w5 w6 := by rw [hw6]; exact alloc_below _ _
  have b7 : Below w6.heap.size w6 w7 := by rw [hw7]; exact alloc_below _ _
  have b8 : Below w7.heap.size w7 w8 := by rw [hw8]; exact alloc_below _ _
  have b9 : Below w8.heap.size w8 w9 := by rw [hw9]; exact alloc_below _ _
  have b10 : Below w9.heap.size w9 w10 := by rw [hw10]; exact alloc_below _ _
  have S6 := Lib.hid (S5.out.below b6)
  have S8 := Lib.hid ((S6.out.below b7).below b8)
  have S10 := Lib.hid ((S8.out.below b9).below b10)
  have HX0 : Hid (w10.heap[hb]? = some (.cells #[.slice none 0 0] 22 (0, 0))) := by
    refine kept (kept (kept (kept ?_ b7) b8) b9) b10
    rw [hw6, hhb]; exact heap_alloc_new _ _
  have IN10 : Hid (InAt w kb rb #[.int .i64 T.tracks, .slice va T.pts.length vc, .int .i64 T.sigs, .slice a T.rts.length c] y yb ob Y (hb + 2) (hb + 4) (hb + 1) (hb + 3) N (clrF T Y.tn 0) (setF Y.A.R 0) w10) := by
    refine ⟨S10.out, kept (kept ?_ b9) b10, ?_, ?_, ?_⟩
    · rw [hw8, show hb + 2 = w7.heap.size by omega]; exact heap_alloc_new _ _
    · rw [hw10, show hb + 4 = w9.heap.size by omega]; exact heap_alloc_new _ _
    · have h7 : RowAt w7 (hb + 1) 4 N (fun _ => .bool false) := by rw [hw7, show hb + 1 = w6.heap.size by omega]; exact made_at _ _ _ _
      exact ((h7.same (b8.block _ h7.lt)).same (b9.block _ (by omega))).same (b10.block _ (by omega))
    · have h9 : RowAt w9 (hb + 3) 4 N (fun _ => .bool false) := by rw [hw9, show hb + 3 = w8.heap.size by omega]; exact made_at _ _ _ _
      exact h9.same (b10.block _ h9.lt)
  have HBK : Hid (Bk y yb ob hb (hb + 2) (hb + 4) (hb + 1) (hb + 3)) := by
    have h1 := heap_lt S5.out.g.l.yd.au.obj
    have h2 := S5.out.g.l.yd.au.bel.size
    have h3 := fun b hb => (S5.out.g.l.M b hb).2
    have h4 := heap_lt S5.out.yx; have h5 := heap_lt S5.out.ox
    have ho : ∀ b, w5.heap.size ≤ b → OwnB y b := fun b hb' => ⟨fun h => by have := h3 _ h; omega, by omega, by omega⟩
    exact ⟨ho _ (by omega), ho _ (by omega), ho _ (by omega), ho _ (by omega), ho _ (by omega), by omega, by omega, rfl, rfl, rfl, rfl⟩
  have DS10 : Hid (∀ D ∈ ds, w10.heap[D]? = some (.deferred (some [])) ∧ ¬ y.M D ∧ D ≠ rb ∧ w.heap.size ≤ D) := fun D hD => ⟨kept (kept (kept (kept (kept (DS5.out D hD).1 b6) b7) b8) b9) b10, (DS5.out D hD).2⟩
  have HW6 := Lib.hid hw6; have HW8 : Hid (w8 = (w6.alloc (.cells (madeCells #[.bool false] N) 4)).alloc (.cells #[.slice (some ⟨hb + 1, 0, none⟩) N N] 37)) := by show _ = _; rw [hw8, hw7]
  have HW10 : Hid (w10 = (w8.alloc (.cells (madeCells #[.bool false] N) 4)).alloc (.cells #[.slice (some ⟨hb + 3, 0, none⟩) N N] 37)) := by show _ = _; rw [hw10, hw9]
  have Z6 := Lib.hid z6; have Z8 := Lib.hid z8
  have HDL : Hid (∀ D ∈ ds, D < hb) := fun D hD => by rw [hhb]; exact (Array.getElem?_eq_some_iff.1 (DS5.out D hD).1).1
  clear hw6 hw7 hw8 hw9 hw10 z6 z7 z8 z9 b6 b7 b8 b9 b10 hhb
  gi_upto_region 13 with (fail)
  rw [← HW6.out, ← HHB5.out]
  have c3 : w6.cell? ⟨kb, 3, none⟩ = some (.slice a N c) := by rw [HNN.out]; exact cell_row (j := 3) S6.out.g.l.k rfl
  have lk := heap_lt S6.out.g.l.k
  gi_upto_region 14 with (fail)
  first | rw [Z6.out] | skip
  rw [← HW8.out]
  clear c3 lk
  have c3 : w8.cell? ⟨kb, 3, none⟩ = some (.slice a N c) := by rw [HNN.out]; exact cell_row (j := 3) S8.out.g.l.k rfl
  have lk := heap_lt S8.out.g.l.k
  gi_upto_region 15 with (fail)
  rw [Z8.out, ← HW10.out]
  clear c3 lk
  obtain ⟨ca, hca⟩ : ∃ b, b = hb + 1 := ⟨_, rfl⟩
  obtain ⟨cb, hcb⟩ : ∃ b, b = hb + 1 + 1 := ⟨_, rfl⟩
  obtain ⟨sa, hsa⟩ : ∃ b, b = hb + 3 := ⟨_, rfl⟩
  obtain ⟨sb, hsb⟩ : ∃ b, b = hb + 3 + 1 := ⟨_, rfl⟩
  rw [show hb + 2 = cb by omega, show hb + 4 = sb by omega, ← hca, ← hsa] at IN10 HBK
  rw [← hcb, ← hsb]
  clear hca hcb hsa hsb HW6 HW8 HW10 Z6 Z8 S6 S8 S10 S5 DS5 HHB5 hmk
  obtain ⟨w5, rfl⟩ : ∃ x, x = w10 := ⟨_, rfl⟩
  have c3 : w5.cell? ⟨kb, 3, none⟩ = some (.slice a N c) := by rw [HNN.out]; exact cell_row (j := 3) IN10.out.s.g.l.k rfl
  have lk := heap_lt IN10.out.s.g.l.k
  gi_upto_region 16 with (fail)
  clear c3 lk
  gi_loopw [58] (fun i wr => ∃ j : Nat, j ≤ N ∧ i = .int .i64 j ∧ InAt w kb rb #[.int .i64 T.tracks, .slice va T.pts.length vc, .int .i64 T.sigs, .slice a T.rts.length c] y yb ob Y cb sb ca sa N (clrF T Y.tn j) (setF Y.A.R j) wr ∧ wr.heap[hb]? = some (.cells #[.slice none 0 0] 22 (0, 0)) ∧ (∀ D ∈ ds, wr.heap[D]? = some (.deferred (some [])) ∧ ¬ y.M D ∧ D ≠ rb ∧ w.heap.size ≤ D)) (fun i _ => N - (intOf i).toNat)
  case atStart => exact ⟨0, Nat.zero_le _, rfl, IN10.out, HX0.out, DS10.out⟩
  case round =>
    clear IN10 HX0 DS10
    obtain ⟨j, hj, rfl, h1, h2, h3⟩ := hrel
    have IN5 := Lib.hid h1; have HX5 := Lib.hid h2; have DS5 := Lib.hid h3
    clear h1 h2 h3
    obtain ⟨w5, rfl⟩ : ∃ w5 : World, w5 = wr := ⟨_, rfl⟩
    by_cases hjl : j < N
    case neg =>
      obtain rfl : N = j := by omega
      have y0 := cell_row (j := 0) IN5.out.s.yx rfl
      have ly := heap_lt IN5.out.s.yx
      gi_wp2_with (fail)
      refine ⟨trivial, (callsIn_wide.2 (trains_any _ (.inr ⟨y.g, rfl⟩) w5)).mono ?_⟩
      rintro e w6 ⟨rfl, hbx, hb⟩
      have IN6 := Lib.hid (IN5.out.below hb)
      have HX6 := Lib.hid (kept HX5.out hb)
      have DS6 : Hid (∀ D ∈ ds, w6.heap[D]? = some (.deferred (some []))) := fun D hD => kept (DS5.out D hD).1 hb
      obtain ⟨tb, htb⟩ : ∃ b, b = w5.heap.size := ⟨_, rfl⟩
      rw [← htb] at hbx ⊢
      have hN7 : y.u.T.rts.length = N := by rw [HYT.out, HNN.out]
      have HQ := trains1_in (n + 4 - 1) y Y tb w6 IN6.out.s.g.l.yd (by omega) (by rw [HYT.out]; exact HN0.out) hbx
      rw [hN7] at HQ
      clear y0 ly hb htb
      gi_wp2_with (fail)
      have HHC : Hid (HaC y yb ob hb cb sb ca sa w6.heap.size) := ⟨HBK.out, by have := heap_lt IN6.out.sx; have := HBK.out.e4; omega, fun b hb' => by
        have h1 := heap_lt IN6.out.s.g.l.yd.au.obj
        have h2 := IN6.out.s.g.l.yd.au.bel.size
        exact ⟨fun h => by have := (IN6.out.s.g.l.yd.M_ge _ h).2; omega, by omega, by omega⟩⟩
      have HDLC : Hid (∀ D ∈ ds, D < w6.heap.size) := fun D hD => (Array.getElem?_eq_some_iff.1 (DS6.out D hD)).1
      have HDO : Hid (∀ D ∈ ds, ¬ y.M D ∧ D ≠ rb ∧ w.heap.size ≤ D) := fun D hD => (DS5.out D hD).2
      obtain ⟨C, hCC⟩ : ∃ C, C = w6.heap.size := ⟨_, rfl⟩
      rw [← hCC] at HHC HDLC
      clear IN5 HX5 DS5 HDL
      refine rangeFunc_d (ps := #[97]) rfl (by omega) (gf := 27) (lb := #[.pointer (some ⟨tb, 0, none⟩)]) rfl trivial (enters_of Try.func27 (by kernel_rfl) rfl)
        (Kb := fun _ => False) (N := (onIdx Y.tn N).length) (fun b hb => hb.elim) HQ (fun _ => rfl)
        (fun x Fb W => HaI w kb rb #[.int .i64 T.tracks, .slice va T.pts.length vc, .int .i64 T.sigs, .slice a T.rts.length c] y yb ob Y cb sb ca sa N (clrF T Y.tn N) (setF Y.A.R N) C hb ds ((hadL Y.tn N).take x) Fb W) (fun _ _ _ _ => False)
        (fun Fb s W W' row h hg hr => h.grown HHC.out HDLC.out hg (fun r e => ⟨by rw [hCC]; exact (hr r e).1, (hr r e).2⟩)) (fun _ _ s W W' row h _ _ => h.elim)
        (fun s Fb A W h hb => h.below hb) (fun _ _ _ _ _ h _ => h.elim) (fun s Fb A W h hb => h.below' hb)
        (fun A hA => ⟨IN6.out.below hA, by rw [hCC]; exact hA.size, fun e => e.elim, fun D hD => kept (DS6.out D hD) hA, _, kept HX6.out hA, ⟨rfl, .inl ⟨rfl, rfl⟩⟩, fun g hg => by cases hg⟩)
        (fun x a' W => ∃ (zb ni tl hd : Nat), a' = ⟨#[Value.agg #[Value.int IntKind.i64 T.tracks, Value.slice va T.pts.length vc, Value.int IntKind.i64 T.sigs, Value.slice a T.rts.length c], Value.int IntKind.i64 d, Value.slice (some { block := lb, off := loff }) ls.length lc, Value.pointer (some { block := kb, off := 0 }), undef, undef, Value.pointer (some { block := rb, off := 0 }), Value.pointer (some { block := yb, off := 0 }), Value.int IntKind.i64 0, Value.pointer (some { block := ob, off := 0 }), u 10, Value.slice xa ms.length xc, Value.pointer (some { block := hb, off := 0 }), Value.pointer (some { block := cb, off := 0 }), Value.pointer (some { block := sb, off := 0 }), u15, u16, u 17, u18, Value.pointer (some { block := zb, off := 0 }), u 20, u 21, u 22, u 23, u 24, u 25, Value.bool true, Value.bool false, Value.agg #[Value.int IntKind.i64 T.tracks, Value.slice va T.pts.length vc, Value.int IntKind.i64 T.sigs, Value.slice a T.rts.length c], Value.slice (some { block := lb, off := loff }) ls.length lc, Value.bool false, undef, Value.tuple #[Value.pointer (some { block := y.g, off := 0 }), Value.int IntKind.i64 0], Value.agg #[Value.int IntKind.i64 T.tracks, Value.slice va T.pts.length vc, Value.int IntKind.i64 T.sigs, Value.slice a T.rts.length c], Value.int IntKind.i64 d, Value.tuple #[Value.pointer (some { block := y.g, off := 0 }), Value.int IntKind.i64 0], Value.pointer (some { block := y.g, off := 0 }), Value.int IntKind.i64 0, Value.int IntKind.i64 0, Value.bool false, undef, Value.slice (some { block := lb, off := loff }) ls.length lc, Value.int IntKind.i64 (ls.length : Int), Value.int IntKind.i64 (q : Int), Value.bool true, Value.pointer (some { block := lb, off := loff + q }), Value.slice xa ms.length xc, Value.pointer (some { block := kb, off := 3 }), Value.slice a N c, Value.int IntKind.i64 (N : Int), Value.slice (some { block := hb + 1, off := 0 }) N N, Value.pointer (some { block := kb, off := 3 }), Value.slice a N c, Value.int IntKind.i64 (N : Int), Value.slice (some { block := hb + 3, off := 0 }) N N, Value.pointer (some { block := kb, off := 3 }), Value.slice a N c, Value.int IntKind.i64 (N : Int), Value.int IntKind.i64 (N : Int), Value.bool false, u60, u61, u62, u63, u64, u65, u66, u67, u68, u69, u70, u71, u72, u73, u74, u75, u76, u77, u78, u79, u80, u81, u82, u83, u84, u85, u86, u87, u88, u89, u90, u91, u92, u93, u94, Value.pointer (some { block := y.g, off := 0 }), .func (.func 27) #[] #[Value.pointer (some { block := tb, off := 0 })], .agg #[.int .i64 (ni : Int), .int .i64 (tl : Int), .int .i64 (hd : Int)], u 98, u 99, u 100, u 101, u 102, u 103, u 104, u 105, u 106, u 107, u 108, u 109, u 110, u 111, u 112, u 113, u 114, u 115, u 116, u 117, u 118, u 119, u 120, u 121, u 122, u 123, u 124, u 125, u 126, u 127, u 128, u 129, u 130, u 131, u 132, u 133, u 134, u 135, u 136, u 137, u 138, u 139, u 140, u 141, u 142, u 143, u 144, u 145, u 146, u 147, u 148, u 149, u 150, u 151, u 152, u 153, u 154, u 155, u 156, u 157, u 158, u 159, u 160, u 161, u 162, u 163, u 164, u 165, u 166, u 167, u 168, u 169, u 170, u 171, u 172, u 173, u 174, u 175], []⟩ ∧ ni = (onIdx Y.tn N).getD x 0 ∧ tl = (Y.tn ni).tl ∧ hd = (Y.tn ni).hd ∧ W.heap[zb]? = some (.cells #[.int .i64 (ni : Int), .int .i64 (tl : Int), .int .i64 (hd : Int)] 50 (0, 0)))
        ?hAo ?assign ?body ?done ?stop
      case hAo =>
        intro x a' s W W' row h hg hr
        obtain ⟨zb, ni, tl, hd, e1, e2, e3, e4, e5⟩ := h
        exact ⟨zb, ni, tl, hd, e1, e2, e3, e4, (hg.block _ (heap_lt e5) (fun e => by
          obtain ⟨_, o, ho, hc⟩ := hr _ e.symm
          rw [e5] at ho; cases ho; simp [Obj.isCells] at hc)).trans e5⟩
      case stop => intro D c x Fb W _ _ _ h; exact h.elim
      case assign =>
        intro l x W K hx hK
        unfold encT
        obtain ⟨ni, hni⟩ : ∃ m, m = (onIdx Y.tn N).getD x 0 := ⟨_, rfl⟩
        obtain ⟨tl, htl⟩ : ∃ m, m = (Y.tn ni).tl := ⟨_, rfl⟩
        obtain ⟨hd, hhd⟩ : ∃ m, m = (Y.tn ni).hd := ⟨_, rfl⟩
        rw [← hni, ← htl, ← hhd]
        have HB2 : Hid ((W.alloc (.cells #[.int .i64 (ni : Int), .int .i64 (tl : Int), .int .i64 (hd : Int)] 50)).heap[W.heap.size]? = some (.cells #[.int .i64 (ni : Int), .int .i64 (tl : Int), .int .i64 (hd : Int)] 50 (0, 0))) := heap_alloc_new _ _
        have HKK : Hid (∀ a' W', Below W.heap.size W W' → (∃ (zb ni tl hd : Nat), a' = ⟨#[Value.agg #[Value.int IntKind.i64 T.tracks, Value.slice va T.pts.length vc, Value.int IntKind.i64 T.sigs, Value.slice a T.rts.length c], Value.int IntKind.i64 d, Value.slice (some { block := lb, off := loff }) ls.length lc, Value.pointer (some { block := kb, off := 0 }), undef, undef, Value.pointer (some { block := rb, off := 0 }), Value.pointer (some { block := yb, off := 0 }), Value.int IntKind.i64 0, Value.pointer (some { block := ob, off := 0 }), u 10, Value.slice xa ms.length xc, Value.pointer (some { block := hb, off := 0 }), Value.pointer (some { block := cb, off := 0 }), Value.pointer (some { block := sb, off := 0 }), u15, u16, u 17, u18, Value.pointer (some { block := zb, off := 0 }), u 20, u 21, u 22, u 23, u 24, u 25, Value.bool true, Value.bool false, Value.agg #[Value.int IntKind.i64 T.tracks, Value.slice va T.pts.length vc, Value.int IntKind.i64 T.sigs, Value.slice a T.rts.length c], Value.slice (some { block := lb, off := loff }) ls.length lc, Value.bool false, undef, Value.tuple #[Value.pointer (some { block := y.g, off := 0 }), Value.int IntKind.i64 0], Value.agg #[Value.int IntKind.i64 T.tracks, Value.slice va T.pts.length vc, Value.int IntKind.i64 T.sigs, Value.slice a T.rts.length c], Value.int IntKind.i64 d, Value.tuple #[Value.pointer (some { block := y.g, off := 0 }), Value.int IntKind.i64 0], Value.pointer (some { block := y.g, off := 0 }), Value.int IntKind.i64 0, Value.int IntKind.i64 0, Value.bool false, undef, Value.slice (some { block := lb, off := loff }) ls.length lc, Value.int IntKind.i64 (ls.length : Int), Value.int IntKind.i64 (q : Int), Value.bool true, Value.pointer (some { block := lb, off := loff + q }), Value.slice xa ms.length xc, Value.pointer (some { block := kb, off := 3 }), Value.slice a N c, Value.int IntKind.i64 (N : Int), Value.slice (some { block := hb + 1, off := 0 }) N N, Value.pointer (some { block := kb, off := 3 }), Value.slice a N c, Value.int IntKind.i64 (N : Int), Value.slice (some { block := hb + 3, off := 0 }) N N, Value.pointer (some { block := kb, off := 3 }), Value.slice a N c, Value.int IntKind.i64 (N : Int), Value.int IntKind.i64 (N : Int), Value.bool false, u60, u61, u62, u63, u64, u65, u66, u67, u68, u69, u70, u71, u72, u73, u74, u75, u76, u77, u78, u79, u80, u81, u82, u83, u84, u85, u86, u87, u88, u89, u90, u91, u92, u93, u94, Value.pointer (some { block := y.g, off := 0 }), .func (.func 27) #[] #[Value.pointer (some { block := tb, off := 0 })], .agg #[.int .i64 (ni : Int), .int .i64 (tl : Int), .int .i64 (hd : Int)], u 98, u 99, u 100, u 101, u 102, u 103, u 104, u 105, u 106, u 107, u 108, u 109, u 110, u 111, u 112, u 113, u 114, u 115, u 116, u 117, u 118, u 119, u 120, u 121, u 122, u 123, u 124, u 125, u 126, u 127, u 128, u 129, u 130, u 131, u 132, u 133, u 134, u 135, u 136, u 137, u 138, u 139, u 140, u 141, u 142, u 143, u 144, u 145, u 146, u 147, u 148, u 149, u 150, u 151, u 152, u 153, u 154, u 155, u 156, u 157, u 158, u 159, u 160, u 161, u 162, u 163, u 164, u 165, u 166, u 167, u 168, u 169, u 170, u 171, u 172, u 173, u 174, u 175], []⟩ ∧ ni = (onIdx Y.tn N).getD x 0 ∧ tl = (Y.tn ni).tl ∧ hd = (Y.tn ni).hd ∧ W'.heap[zb]? = some (.cells #[.int .i64 (ni : Int), .int .i64 (tl : Int), .int .i64 (hd : Int)] 50 (0, 0))) → K a' W') := hK
        have HNI := Lib.hid hni; have HTL := Lib.hid htl; have HHD := Lib.hid hhd
        clear hK HQ hni htl hhd
        gi_wp2
        exact HKK.out _ _ (alloc_below _ _) ⟨W.heap.size, ni, tl, hd, rfl, HNI.out, HTL.out, HHD.out, HB2.out⟩
      case body =>
        intro l x Fb a' W hx hl hF hI hA
        obtain ⟨zb, ni, tl, hd, rfl, hni, htl, hhd, hzb⟩ := hA
        have HI := Lib.hid hI
        obtain ⟨ve, hk1, hk2, hk3⟩ := hI.ro
        have K1 := Lib.hid hk1; have K2 := Lib.hid hk2; have K3 := Lib.hid hk3
        have z0 := cell_row (j := 0) hzb rfl
        have lz := heap_lt hzb
        have m0 := cell_row (j := 0) hk1 rfl
        have lm := heap_lt hk1
        have hxM : x < (hadL Y.tn N).length := by rw [hadL_len]; exact hx
        have HTK := Lib.hid (take_snoc (0 : Int) hxM)
        rw [hadL_get hx, ← hni] at HTK
        have hlen : ((hadL Y.tn N).take x).length = x := by rw [List.length_take]; omega
        have hx16 : x ≤ 16 := by have := onIdx_len Y.tn N; omega
        have HLT := Lib.hid hlen
        rw [hlen] at K2
        have HFL : Hid (∀ b, Fb b → b < W.heap.size) := fun b hb => (hF b hb).1
        have HCS : Hid (C ≤ W.heap.size) := hI.c
        obtain ⟨i0, hi, hz0, hz1', hz2'⟩ := tb_info infoI
        have HIn := Lib.hid hi; have HZ0 := Lib.hid hz0; have HZ1 := Lib.hid hz1'; have HZ2 := Lib.hid hz2'
        clear hi hz0 hz1' hz2' hI hk1 hk2 hk3 hni htl hhd hzb hF HQ hlen hxM hCC
        gi_wp2_with (gi_at_builtin; refine wp_app_int rfl _ _ rfl C ve x _ rfl rfl K2.out (by omega) HCS.out ?_)
        intro v8 w8 ho8 hg8 hat8
        obtain ⟨g8, c8, rfl⟩ := own_slice1 ho8
        obtain ⟨h8, hall⟩ := HI.out.app (m := (ni : Int)) HHC.out HFL.out K1.out (by rw [HLT.out]; exact K2.out) K3.out hg8 (by rw [HLT.out]; exact ho8) (hat8.imp id fun e => e.trans (congrArg some (Array.size_push _).symm))
        rw [← HTK.out] at hall
        have m8 := cell_row (j := 0) h8 rfl
        have f8 : w8.frozen? ⟨hb, 0, none⟩ = false := frozen_of_row _ _ _ _ _ h8
        have l8 := heap_lt h8
        have FIN := Lib.hid (hall w6.heap.size)
        clear hall h8 ho8 hg8 hat8 z0 lz m0 lm
        gi_wp2
        exact FIN.out
      case done =>
        intro D Fb W hD hI hDd
        have hall : (hadL Y.tn N).take (onIdx Y.tn N).length = hadL Y.tn N := by rw [← hadL_len, List.take_length]
        rw [hall] at hI
        have HI : Hid (HaI w kb rb #[.int .i64 T.tracks, .slice va T.pts.length vc, .int .i64 T.sigs, .slice a T.rts.length c] y yb ob Y cb sb ca sa N (clrF T Y.tn N) (setF Y.A.R N) C hb (D :: ds) (hadL Y.tn N) Fb W) := ⟨hI.i, hI.c, hI.fm, fun E hE => by
          rcases List.mem_cons.1 hE with rfl | hE
          · exact hDd
          · exact hI.ds E hE, hI.ro⟩
        have HDN : Hid (∀ E ∈ D :: ds, ¬ y.M E ∧ E ≠ rb ∧ w.heap.size ≤ E) := fun E hE => by
          rcases List.mem_cons.1 hE with rfl | hE
          · have hDC : C ≤ E := by rw [hCC]; exact hD
            refine ⟨(HHC.out.o E hDC).1, fun e => ?_, ?_⟩
            · have h1 := hI.i.s.g.rw; have h2 := hI.i.s.g.l.yd.ap.z; have h3 := (HHC.out.o E hDC).2.2; omega
            · have h1 := hI.i.s.g.l.ge; have h2 := hI.i.s.g.l.yd.ap.z; have h3 := (HHC.out.o E hDC).2.2; omega
          · exact HDO.out E hE
        have ND7 : Hid ((D :: ds).Nodup) := List.nodup_cons.2 ⟨fun h => by have := HDLC.out D h; omega, ND.out⟩
        have HFR := Lib.hid (HFM.out W Y ms (.slice xa ms.length xc) hI.i.s.g.l.yd HFI.out (HMV.out.below hI.i.s.g.l.b) (mvs_off HMV.out hI.i.s.g.l.yd hI.i.s.g.l.ge) (by omega))
        have HTU : Hid (∀ W', TurnY y W (frameY T y.d Y ms) W' → ∃ ve, PoAt w kb rb #[.int .i64 T.tracks, .slice va T.pts.length vc, .int .i64 T.sigs, .slice a T.rts.length c] y yb ob (frameY T y.d Y ms) Y.L cb sb ca sa N (clrF T Y.tn N) (setF Y.A.R N) hb W'.heap.size ve (hadL Y.tn N) (D :: ds) (W'.alloc (.cells #[.int .u32 ((frameY T y.d Y ms).L.pr : Int), .int .u32 ((frameY T y.d Y ms).L.no : Int), .int .u32 ((frameY T y.d Y ms).L.re : Int), .int .u32 ((frameY T y.d Y ms).L.lo : Int)] 35))) := fun W' hW => HI.out.turn HHC.out HYB.out HOB.out (hadL_ok hN16) HDN.out hW
        have HSG : Hid (∀ n, n < N → ((frameY T y.d Y ms).tn n).is = true → ((frameY T y.d Y ms).A.R n).ph = 3 ∧ (frameY T y.d Y ms).L.lo.testBit n = true ∧ ((Y.tn n).is = false → (Y.A.R n).ph = 1 ∧ Y.L.pr.testBit (T.rts.getD n rt0).sig.toNat = true ∧ ∀ x ∈ (T.rts.getD n rt0).tr, onN T Y.tn x T.rts.length = 0)) := fun n hn h => sig_none HCE.out HTO.out HFI.out.inv ms (by rw [← HNN.out]; exact hn) h
        have y0 := cell_row (j := 0) hI.i.s.yx rfl
        have ly := heap_lt hI.i.s.yx
        have HFI' : Hid (YFine T (frameY T y.d Y ms)) := HFI.out.frame HCE.out HTO.out HX.out.d ms
        clear hall hI hDd HQ hCC HDO HDLC ND
        obtain ⟨Z, hZ⟩ : ∃ x, x = frameY T y.d Y ms := ⟨_, rfl⟩
        rw [← hZ] at HFR HSG HTU HFI' HTS
        clear hZ
        obtain ⟨L, hL⟩ : ∃ x, x = Z.L := ⟨_, rfl⟩
        rw [← hL] at HFR HSG HTU
        have HZL := Lib.hid hL
        clear hL
        obtain ⟨pr, no, re, lo⟩ := L
        unfold OD.val at HFR
        dsimp only at HSG HTU
        gi_wp2_with (fail)
        refine ⟨trivial, (callsIn_wide.2 (HFR.out)).mono ?_⟩
        rintro e w8 ⟨⟨vx, rfl, _, _⟩, hk8⟩
        obtain ⟨ve, hpo⟩ := HTU.out _ hk8
        obtain ⟨w9, hw9⟩ : ∃ x, x = w8.alloc (.cells #[.int .u32 (pr : Int), .int .u32 (no : Int), .int .u32 (re : Int), .int .u32 (lo : Int)] 35) := ⟨_, rfl⟩
        rw [← hw9] at hpo
        have HW9 := Lib.hid hw9
        have PO := Lib.hid hpo
        clear hw9 hpo hk8 HFR HTU HI y0 ly
        gi_upto_region 29 with (fail)
        rw [← HW9.out]
        obtain ⟨nb, hnb⟩ : ∃ b, b = w8.heap.size := ⟨_, rfl⟩
        rw [← hnb] at PO ⊢
        clear HW9
        have y0 := cell_row (j := 0) PO.out.yx rfl
        have ly := heap_lt PO.out.yx
        gi_wp2_with (fail)
        refine ⟨trivial, (callsIn_wide.2 (trains_any _ (.inr ⟨y.g, rfl⟩) w9)).mono ?_⟩
        rintro e w10 ⟨rfl, hbx, hb'⟩
        have P10 := Lib.hid (PO.out.below hb')
        obtain ⟨tb2, htb⟩ : ∃ b, b = w9.heap.size := ⟨_, rfl⟩
        rw [← htb] at hbx ⊢
        have HQ := trains1_in (n + 4 - 1) y Z tb2 w10 P10.out.g.l.yd (by omega) (by rw [HYT.out]; exact HN0.out) hbx
        rw [hN7] at HQ
        clear y0 ly hb' htb hnb PO
        gi_wp2_with (fail)
        have HLEN : Hid ((hadL Y.tn N).length ≤ 16) := by show _ ≤ _; rw [hadL_len]; have := onIdx_len Y.tn N; omega
        have HMM : Hid (∀ m, m < N → isN (hadL Y.tn N) (m : Int) (hadL Y.tn N).length = (Y.tn m).is) := fun m hm => hadL_mem hm
        obtain ⟨had, hhad⟩ : ∃ l, l = hadL Y.tn N := ⟨_, rfl⟩
        rw [← hhad] at P10 HLEN HMM
        clear hhad
        obtain ⟨⟨ha, hcp, rfl, hh1, hh2, _⟩, _⟩ := id P10.out.h
        unfold maxLen at hh2
        have hh0 := HLEN.out
        have HPL : Hid (Y.L.pr < 4294967296) := (HFI.out.inv.lok HTO.out).pr
        have HLO : Hid (lo < 4294967296) := by have := (HFI'.out.inv.lok HTO.out).lo; rw [← HZL.out] at this; exact this
        refine rangeFunc_d (ps := #[111]) rfl (by omega) (gf := 27) (lb := #[.pointer (some ⟨tb2, 0, none⟩)]) rfl trivial (enters_of Try.func27 (by kernel_rfl) rfl)
          (Kb := fun _ => False) (N := (onIdx Z.tn N).length) (fun b hb => hb.elim) HQ (fun _ => rfl)
          (fun x Fb W => Below w10.heap.size w10 W) (fun _ _ _ _ => False)
          (fun Fb s W W' row h hg hr => h.grown hg h.size (fun r e => (hr r e).1)) (fun _ _ s W W' row h _ _ => h.elim)
          (fun s Fb A W h hb => h.trans (hb.mono h.size)) (fun _ _ _ _ _ h _ => h.elim) (fun s Fb A W h hb => h.trans (hb.mono h.size))
          (fun A hA => hA)
          (fun x a' W => ∃ (zb ni tl hd : Nat), a' = ⟨#[Value.agg #[Value.int IntKind.i64 T.tracks, Value.slice va T.pts.length vc, Value.int IntKind.i64 T.sigs, Value.slice a T.rts.length c], Value.int IntKind.i64 d, Value.slice (some { block := lb, off := loff }) ls.length lc, Value.pointer (some { block := kb, off := 0 }), undef, undef, Value.pointer (some { block := rb, off := 0 }), Value.pointer (some { block := yb, off := 0 }), Value.int IntKind.i64 0, Value.pointer (some { block := ob, off := 0 }), u 10, Value.slice xa ms.length xc, Value.pointer (some { block := hb, off := 0 }), Value.pointer (some { block := cb, off := 0 }), Value.pointer (some { block := sb, off := 0 }), u15, u16, u 17, u18, u 19, Value.pointer (some { block := nb, off := 0 }), vx, Value.pointer (some { block := zb, off := 0 }), u 23, u 24, u 25, Value.bool true, Value.bool false, Value.agg #[Value.int IntKind.i64 T.tracks, Value.slice va T.pts.length vc, Value.int IntKind.i64 T.sigs, Value.slice a T.rts.length c], Value.slice (some { block := lb, off := loff }) ls.length lc, Value.bool false, undef, Value.tuple #[Value.pointer (some { block := y.g, off := 0 }), Value.int IntKind.i64 0], Value.agg #[Value.int IntKind.i64 T.tracks, Value.slice va T.pts.length vc, Value.int IntKind.i64 T.sigs, Value.slice a T.rts.length c], Value.int IntKind.i64 d, Value.tuple #[Value.pointer (some { block := y.g, off := 0 }), Value.int IntKind.i64 0], Value.pointer (some { block := y.g, off := 0 }), Value.int IntKind.i64 0, Value.int IntKind.i64 0, Value.bool false, undef, Value.slice (some { block := lb, off := loff }) ls.length lc, Value.int IntKind.i64 (ls.length : Int), Value.int IntKind.i64 (q : Int), Value.bool true, Value.pointer (some { block := lb, off := loff + q }), Value.slice xa ms.length xc, Value.pointer (some { block := kb, off := 3 }), Value.slice a N c, Value.int IntKind.i64 (N : Int), Value.slice (some { block := hb + 1, off := 0 }) N N, Value.pointer (some { block := kb, off := 3 }), Value.slice a N c, Value.int IntKind.i64 (N : Int), Value.slice (some { block := hb + 3, off := 0 }) N N, Value.pointer (some { block := kb, off := 3 }), Value.slice a N c, Value.int IntKind.i64 (N : Int), Value.int IntKind.i64 (N : Int), Value.bool false, u60, u61, u62, u63, u64, u65, u66, u67, u68, u69, u70, u71, u72, u73, u74, u75, u76, u77, u78, u79, u80, u81, u82, u83, u84, u85, u86, u87, u88, u89, u90, u91, u92, u93, u94, Value.pointer (some { block := y.g, off := 0 }), .func (.func 27) #[] #[Value.pointer (some { block := tb, off := 0 })], u 97, u 98, u 99, u 100, u 101, u 102, Value.tuple #[Value.agg #[Value.int IntKind.u32 (pr : Int), Value.int IntKind.u32 (no : Int), Value.int IntKind.u32 (re : Int), Value.int IntKind.u32 (lo : Int)], vx], Value.pointer (some { block := y.g, off := 0 }), Value.slice xa ms.length xc, Value.tuple #[Value.agg #[Value.int IntKind.u32 (pr : Int), Value.int IntKind.u32 (no : Int), Value.int IntKind.u32 (re : Int), Value.int IntKind.u32 (lo : Int)], vx], Value.agg #[Value.int IntKind.u32 (pr : Int), Value.int IntKind.u32 (no : Int), Value.int IntKind.u32 (re : Int), Value.int IntKind.u32 (lo : Int)], vx, Value.pointer (some { block := y.g, off := 0 }), .func (.func 27) #[] #[Value.pointer (some { block := tb2, off := 0 })], .agg #[.int .i64 (ni : Int), .int .i64 (tl : Int), .int .i64 (hd : Int)], u 112, u 113, u 114, u 115, u 116, u 117, u 118, u 119, u 120, u 121, u 122, u 123, u 124, u 125, u 126, u 127, u 128, u 129, u 130, u 131, u 132, u 133, u 134, u 135, u 136, u 137, u 138, u 139, u 140, u 141, u 142, u 143, u 144, u 145, u 146, u 147, u 148, u 149, u 150, u 151, u 152, u 153, u 154, u 155, u 156, u 157, u 158, u 159, u 160, u 161, u 162, u 163, u 164, u 165, u 166, u 167, u 168, u 169, u 170, u 171, u 172, u 173, u 174, u 175], []⟩ ∧ ni = (onIdx Z.tn N).getD x 0 ∧ tl = (Z.tn ni).tl ∧ hd = (Z.tn ni).hd ∧ W.heap[zb]? = some (.cells #[.int .i64 (ni : Int), .int .i64 (tl : Int), .int .i64 (hd : Int)] 50 (0, 0)))
          ?hAo2 ?assign2 ?body2 ?done2 ?stop2
        case hAo2 =>
          intro x a' s W W' row h hg hr
          obtain ⟨zb, ni, tl, hd, e1, e2, e3, e4, e5⟩ := h
          exact ⟨zb, ni, tl, hd, e1, e2, e3, e4, (hg.block _ (heap_lt e5) (fun e => by
            obtain ⟨_, o, ho, hc⟩ := hr _ e.symm
            rw [e5] at ho; cases ho; simp [Obj.isCells] at hc)).trans e5⟩
        case stop2 => intro D c x Fb W _ _ _ h; exact h.elim
        case assign2 =>
          intro l x W K hx hK
          unfold encT
          obtain ⟨ni, hni⟩ : ∃ m, m = (onIdx Z.tn N).getD x 0 := ⟨_, rfl⟩
          obtain ⟨tl, htl⟩ : ∃ m, m = (Z.tn ni).tl := ⟨_, rfl⟩
          obtain ⟨hd, hhd⟩ : ∃ m, m = (Z.tn ni).hd := ⟨_, rfl⟩
          rw [← hni, ← htl, ← hhd]
          have HB2 : Hid ((W.alloc (.cells #[.int .i64 (ni : Int), .int .i64 (tl : Int), .int .i64 (hd : Int)] 50)).heap[W.heap.size]? = some (.cells #[.int .i64 (ni : Int), .int .i64 (tl : Int), .int .i64 (hd : Int)] 50 (0, 0))) := heap_alloc_new _ _
          have HKK : Hid (∀ a' W', Below W.heap.size W W' → (∃ (zb ni tl hd : Nat), a' = ⟨#[Value.agg #[Value.int IntKind.i64 T.tracks, Value.slice va T.pts.length vc, Value.int IntKind.i64 T.sigs, Value.slice a T.rts.length c], Value.int IntKind.i64 d, Value.slice (some { block := lb, off := loff }) ls.length lc, Value.pointer (some { block := kb, off := 0 }), undef, undef, Value.pointer (some { block := rb, off := 0 }), Value.pointer (some { block := yb, off := 0 }), Value.int IntKind.i64 0, Value.pointer (some { block := ob, off := 0 }), u 10, Value.slice xa ms.length xc, Value.pointer (some { block := hb, off := 0 }), Value.pointer (some { block := cb, off := 0 }), Value.pointer (some { block := sb, off := 0 }), u15, u16, u 17, u18, u 19, Value.pointer (some { block := nb, off := 0 }), vx, Value.pointer (some { block := zb, off := 0 }), u 23, u 24, u 25, Value.bool true, Value.bool false, Value.agg #[Value.int IntKind.i64 T.tracks, Value.slice va T.pts.length vc, Value.int IntKind.i64 T.sigs, Value.slice a T.rts.length c], Value.slice (some { block := lb, off := loff }) ls.length lc, Value.bool false, undef, Value.tuple #[Value.pointer (some { block := y.g, off := 0 }), Value.int IntKind.i64 0], Value.agg #[Value.int IntKind.i64 T.tracks, Value.slice va T.pts.length vc, Value.int IntKind.i64 T.sigs, Value.slice a T.rts.length c], Value.int IntKind.i64 d, Value.tuple #[Value.pointer (some { block := y.g, off := 0 }), Value.int IntKind.i64 0], Value.pointer (some { block := y.g, off := 0 }), Value.int IntKind.i64 0, Value.int IntKind.i64 0, Value.bool false, undef, Value.slice (some { block := lb, off := loff }) ls.length lc, Value.int IntKind.i64 (ls.length : Int), Value.int IntKind.i64 (q : Int), Value.bool true, Value.pointer (some { block := lb, off := loff + q }), Value.slice xa ms.length xc, Value.pointer (some { block := kb, off := 3 }), Value.slice a N c, Value.int IntKind.i64 (N : Int), Value.slice (some { block := hb + 1, off := 0 }) N N, Value.pointer (some { block := kb, off := 3 }), Value.slice a N c, Value.int IntKind.i64 (N : Int), Value.slice (some { block := hb + 3, off := 0 }) N N, Value.pointer (some { block := kb, off := 3 }), Value.slice a N c, Value.int IntKind.i64 (N : Int), Value.int IntKind.i64 (N : Int), Value.bool false, u60, u61, u62, u63, u64, u65, u66, u67, u68, u69, u70, u71, u72, u73, u74, u75, u76, u77, u78, u79, u80, u81, u82, u83, u84, u85, u86, u87, u88, u89, u90, u91, u92, u93, u94, Value.pointer (some { block := y.g, off := 0 }), .func (.func 27) #[] #[Value.pointer (some { block := tb, off := 0 })], u 97, u 98, u 99, u 100, u 101, u 102, Value.tuple #[Value.agg #[Value.int IntKind.u32 (pr : Int), Value.int IntKind.u32 (no : Int), Value.int IntKind.u32 (re : Int), Value.int IntKind.u32 (lo : Int)], vx], Value.pointer (some { block := y.g, off := 0 }), Value.slice xa ms.length xc, Value.tuple #[Value.agg #[Value.int IntKind.u32 (pr : Int), Value.int IntKind.u32 (no : Int), Value.int IntKind.u32 (re : Int), Value.int IntKind.u32 (lo : Int)], vx], Value.agg #[Value.int IntKind.u32 (pr : Int), Value.int IntKind.u32 (no : Int), Value.int IntKind.u32 (re : Int), Value.int IntKind.u32 (lo : Int)], vx, Value.pointer (some { block := y.g, off := 0 }), .func (.func 27) #[] #[Value.pointer (some { block := tb2, off := 0 })], .agg #[.int .i64 (ni : Int), .int .i64 (tl : Int), .int .i64 (hd : Int)], u 112, u 113, u 114, u 115, u 116, u 117, u 118, u 119, u 120, u 121, u 122, u 123, u 124, u 125, u 126, u 127, u 128, u 129, u 130, u 131, u 132, u 133, u 134, u 135, u 136, u 137, u 138, u 139, u 140, u 141, u 142, u 143, u 144, u 145, u 146, u 147, u 148, u 149, u 150, u 151, u 152, u 153, u 154, u 155, u 156, u 157, u 158, u 159, u 160, u 161, u 162, u 163, u 164, u 165, u 166, u 167, u 168, u 169, u 170, u 171, u 172, u 173, u 174, u 175], []⟩ ∧ ni = (onIdx Z.tn N).getD x 0 ∧ tl = (Z.tn ni).tl ∧ hd = (Z.tn ni).hd ∧ W'.heap[zb]? = some (.cells #[.int .i64 (ni : Int), .int .i64 (tl : Int), .int .i64 (hd : Int)] 50 (0, 0))) → K a' W') := hK
          have HNI := Lib.hid hni; have HTL := Lib.hid htl; have HHD := Lib.hid hhd
          clear hK HQ hni htl hhd
          gi_wp2
          exact HKK.out _ _ (alloc_below _ _) ⟨W.heap.size, ni, tl, hd, rfl, HNI.out, HTL.out, HHD.out, HB2.out⟩
        case done2 =>
          intro D2 Fb W hD hI hDd
          have P11 := Lib.hid (P10.out.below hI)
          have DDD := Lib.hid hDd
          have HD2 : Hid (w10.heap.size ≤ D2) := hD
          have HD3 : Hid (∀ E ∈ D :: ds, E < w10.heap.size) := fun E hE => (Array.getElem?_eq_some_iff.1 (P10.out.d E hE).1).1
          have hnx := P11.out.nx
          have hox := P11.out.ox
          have n0 := cell_row (j := 0) hnx rfl; have n1 := cell_row (j := 1) hnx rfl; have n2 := cell_row (j := 2) hnx rfl; have n3 := cell_row (j := 3) hnx rfl
          have ln := heap_lt hnx; have lo2 := heap_lt hox
          have o0 := cell_row (j := 0) hox rfl; have o1 := cell_row (j := 1) hox rfl; have o2 := cell_row (j := 2) hox rfl; have o3 := cell_row (j := 3) hox rfl
          have f0 : W.frozen? ⟨ob, 0, none⟩ = false := frozen_of_row _ _ _ _ _ hox
          have f1 : W.frozen? ⟨ob, 1, none⟩ = false := frozen_of_row _ _ _ _ _ hox
          have f2 : W.frozen? ⟨ob, 2, none⟩ = false := frozen_of_row _ _ _ _ _ hox
          have f3 : W.frozen? ⟨ob, 3, none⟩ = false := frozen_of_row _ _ _ _ _ hox
          have P10x := Lib.hid P10.out
          clear hnx hox hI hD hDd P10 HQ
          have hnd : D2 ∉ D :: ds := fun h => by have h1 := HD3.out D2 h; have h2 := HD2.out; omega
          have hob10 : ob < w10.heap.size := heap_lt P10x.out.ox
          obtain ⟨hN1, hN2⟩ := P11.out.next (by have := HYO.out; omega) HOB.out
          have HN1 := Lib.hid hN1
          have HDX : Hid (∀ E ∈ D2 :: D :: ds, ((((W.setCell ⟨ob, 0, none⟩ (.int .u32 (Z.L.pr : Int))).setCell ⟨ob, 1, none⟩ (.int .u32 (Z.L.no : Int))).setCell ⟨ob, 2, none⟩ (.int .u32 (Z.L.re : Int))).setCell ⟨ob, 3, none⟩ (.int .u32 (Z.L.lo : Int))).heap[E]? = some (.deferred (some [])) ∧ ¬ y.M E ∧ E ≠ rb ∧ w.heap.size ≤ E) := fun E hE => by
            rcases List.mem_cons.1 hE with rfl | hE
            · have h1 := HD2.out
              refine ⟨hN2 _ _ (by omega) DDD.out, fun h => ?_, fun e => ?_, ?_⟩
              · have := P10x.out.g.l.yd.M_ge _ h; omega
              · have := heap_lt P10x.out.g.r; omega
              · have := P10x.out.g.l.b.size; omega
            · have h1 := P11.out.d E hE
              exact ⟨hN2 _ _ (fun e => by subst e; have h2 := P11.out.ox; rw [h1.1] at h2; cases h2) h1.1, h1.2⟩
          have HNX : Hid ((D2 :: D :: ds).Nodup) := List.nodup_cons.2 ⟨hnd, ND7.out⟩
          clear hN1 hN2 hnd
          gi_wp2_with (fail)
          refine ⟨ex_act (D2 :: D :: ds, q + 1) ⟨by show q + 1 ≤ _; omega, by show SgAt _ _ _ _ _ _ _ (framesY T y.d ys0 (ls.take (q + 1))) _; rw [HTS.out]; exact HN1.out, HDX.out, HNX.out⟩ rfl, ?_⟩
          show ls.length - (intOf (.int .i64 ((q : Int) + 1))).toNat < ls.length - (intOf (.int .i64 (q : Int))).toNat
          simp [intOf]; omega
        case body2 =>
          -- DEV{
          intro l x Fb a' W hx hl hF hI hA
          obtain ⟨zb, ni, tl, hd, rfl, hni, _, _, hzb⟩ := hA
          have P11 := Lib.hid (P10.out.below hI)
          have HBI := Lib.hid hI
          have hmem : ni ∈ onIdx Z.tn N := by rw [hni, List.getD_eq_getElem?_getD, List.getElem?_eq_getElem hx]; exact List.getElem_mem hx
          obtain ⟨hlt, his⟩ := onIdx_lt hmem
          have HM1 := Lib.hid (HMM.out ni hlt)
          have HSN := Lib.hid (HSG.out ni hlt his)
          have HNI := Lib.hid hlt
          have HZB := Lib.hid hzb
          have z0 := cell_row (j := 0) hzb rfl
          have lz := heap_lt hzb
          have h0 := cell_row (j := 0) P11.out.hx rfl
          have lh := heap_lt P11.out.hx
          clear HQ P10 hx hl hF hI hni hzb hmem his
          gi_upto_region 33 with (fail)
          clear h0 lh
          gi_loopw [23, 114] (fun is i wr => ∃ j : Nat, j ≤ had.length ∧ i = .int .i64 j ∧ is = .bool (isN had (ni : Int) j) ∧ wr = W) (fun _ i _ => had.length - (intOf i).toNat)
          case atStart => exact ⟨0, Nat.zero_le _, rfl, rfl, rfl⟩
          case round =>
            obtain ⟨j, hj, rfl, rfl, hwr⟩ := hrel
            obtain rfl : W = wr := hwr.symm
            by_cases hjl : j < had.length
            case pos =>
              have HIS : Hid (isN had (ni : Int) (j + 1) = (isN had (ni : Int) j || (had.getD j 0 == (ni : Int)))) := rfl
              obtain ⟨eb, eoff, rfl, heb, hex⟩ := P11.out.h.cell hjl
              generalize had.getD j 0 = hj0 at *
              generalize isN had (ni : Int) j = v at *
              cases v
              case true =>
                gi_wp2_with (fail)
                go_roundw
                case rel => exact ⟨j + 1, by omega, by go_num, by rw [HIS.out]; rfl, by first | trivial | rfl⟩
                case measure => simp [intOf]; omega
              case false =>
                gi_wp2_with (fail)
                go_roundw
                case rel => exact ⟨j + 1, by omega, by go_num, by rw [HIS.out]; rfl, by first | trivial | rfl⟩
                case measure => simp [intOf]; omega
            case neg =>
              obtain rfl : had.length = j := by omega
              rw [HM1.out]
              have hlt := HNI.out
              have hn32 : ni < 32 := by omega
              obtain ⟨b, off, C0, e, hb', hc, hR⟩ := HR.out.cells (i := ni) (by rw [← HNN.out]; exact HNI.out)
              cases e
              have hsg := HTO.out.sig ni (by rw [← HNN.out]; exact HNI.out)
              obtain ⟨s, hsn⟩ := Int.eq_ofNat_of_zero_le hsg.1
              have hs32 : s < 32 := by omega
              have x0 := hc 0 (by omega)
              rw [Nat.add_zero, hR.sig, hsn] at x0
              obtain ⟨hp3, hlb, hcm⟩ := HSN.out
              have HP3 := Lib.hid hp3
              have HB3 : Hid ((bits .and .u32 ((lo : Int) / 2 ^ ni) 1 == 0) = false) := by show _ = _; rw [and_bit1 _ _ HLO.out, if_pos hlb]; rfl
              have HCM : Hid ((Y.tn ni).is = false → setF Y.A.R N ni = true ∧ clrF T Y.tn N ni = true ∧ (bits .and .u32 ((Y.L.pr : Int) / 2 ^ s) 1 == 0) = false) := fun hv => by
                obtain ⟨h1, h2, h3⟩ := hcm hv
                rw [hsn, Int.toNat_natCast] at h2
                refine ⟨by unfold setF; rw [if_pos HNI.out, h1]; rfl, ?_, by rw [and_bit1 _ _ HPL.out, if_pos h2]; rfl⟩
                unfold clrF
                rw [if_pos HNI.out]
                refine clrN_all fun i hi => ?_
                have ht := withinI_iff.1 (rtOk ((ckOk HCE.out).rt ni (by rw [← HNN.out]; exact HNI.out))).tw i hi
                have hx := h3 _ ((fun (l : List Int) i (h : i < l.length) => by rw [List.getD_eq_getElem?_getD, List.getElem?_eq_getElem h]; exact List.getElem_mem h : ∀ (l : List Int) i, i < l.length → l.getD i 0 ∈ l) _ i hi)
                unfold clearB
                rw [hx, decide_eq_true ht.1, decide_eq_true ht.2.1]; rfl
              have HBL : Hid (Below w.heap.size w W) := P11.out.g.l.b
              have HBB := Lib.hid hb'
              have hfm : (Try.prog).follows .mixedOrders = true := by kernel_rfl
              obtain ⟨U, fU, hUn, hU1, hU2⟩ := class_of (fun V => Below W.heap.size W V) (W := W.drew) ⟨rfl, rfl, rfl, Nat.le_refl _, fun _ _ => rfl⟩
              have HU1 := Lib.hid hU1; have HU2 := Lib.hid hU2
              have HPU := Lib.hid (fun uu => P11.out.below (HU1.out uu))
              have HX0 : Hid (∀ uu, (fU uu).cell? ⟨b, off + ni * 6, none⟩ = some (.int .i64 (s : Int))) := fun uu => by rw [(HPU.out uu).g.l.b.cell HBB.out]; exact x0
              clear hU1 hU2 hp3 hlb hcm hsg hsn x0 hc hR hb' HSN
              generalize (Y.tn ni).is = v at *
              gi_upto_region 37 with (fail)
              cases v
              case true =>
                refine wpIn_region_cls fU (by kernel_rfl) hfm (by kernel_rfl) (HU2.out _ ⟨rfl, rfl, rfl, Nat.le_refl _, fun _ _ => rfl⟩) ?_
                repeat (gi_big_quiet_step (fail))
                refine wpQuietIn_nil ?_
                rintro w3 ⟨uu, rfl⟩
                have B12 := Lib.hid (HU1.out uu)
                have P12 := Lib.hid (HPU.out uu)
                clear HU1 HU2 HPU HX0
                generalize fU uu = w12 at *
                have zz := cell_row (j := 0) (kept HZB.out B12.out) rfl
                have lz2 := heap_lt (kept HZB.out B12.out)
                have n3 := cell_row (j := 3) P12.out.nx rfl
                have ln := heap_lt P12.out.nx
                rw [← HZL.out] at n3
                have y0 := cell_row (j := 0) P12.out.yx rfl
                have ly := heap_lt P12.out.yx
                have HRT := Lib.hid (yroute_any y Z (ni : Int) w12 P12.out.g.l.yd (by rw [hN7]; omega))
                rw [hN7, show Z.A.at N (ni : Int) = Z.A.R ni by unfold AS.at; rw [if_pos ⟨by omega, by omega⟩]; rfl] at HRT
                obtain ⟨r, hr⟩ : ∃ r, r = Z.A.R ni := ⟨_, rfl⟩
                rw [← hr] at HRT HP3
                clear hr
                obtain ⟨ph, tm, us, rl⟩ := r
                unfold RS.val at HRT
                dsimp only at HP3 HRT
                obtain rfl : ph = 3 := HP3.out
                have hf : ∀ W, (Instr.field 43 (.agg #[.int .u8 3, .int .u16 (tm : Int), .int .u32 (us : Int), .int .u32 (rl : Int)]) 0).run Try.prog W = .ok (.int .u8 3) W := fun W => by kernel_rfl
                gi_wp2_with (fail)
                refine ⟨trivial, (CallsIn.inRound _ (callsIn_wide.2 HRT.out)).mono ?_⟩
                rintro e w13 ⟨rfl, hb13⟩
                have B13 : Hid (Below W.heap.size W w13) := B12.out.trans (hb13.mono B12.out.size)
                have zz3 := cell_row (j := 0) (kept HZB.out B13.out) rfl
                have lz3 := heap_lt (kept HZB.out B13.out)
                have n33 := cell_row (j := 3) (P11.out.below B13.out).nx rfl
                rw [← HZL.out] at n33
                have ln3 := heap_lt (P11.out.below B13.out).nx
                have hb3 := HB3.out
                have FIN : Hid (KeepsFrom w10.heap.size W w13 ∧ (KeepF Fb W w13 ∧ W.heap.size ≤ w13.heap.size) ∧ Below w10.heap.size w10 w13) := ⟨⟨B13.out.size, fun k o' hk hko hoc => kept hko B13.out⟩, ⟨KeepF.below B13.out, B13.out.size⟩, HBI.out.trans (B13.out.mono HBI.out.size)⟩
                clear zz lz2 n3 ln y0 ly hb13 HRT
                gi_wp2_with (fail)
                exact FIN.out
              case false =>
                obtain ⟨hse, hcl, hbt⟩ := HCM.out rfl
                have e1 := fun uu => cell_row (j := 0) (kept HZB.out (HU1.out uu)) rfl
                have e2 := fun uu => cell_row (j := 0) (HPU.out uu).sx rfl
                have e3 := fun uu => ((HPU.out uu).st.cell HNI.out).trans (congrArg (fun b => some (Value.bool b)) hse)
                have e4 := fun uu => cell_row (j := 0) (HPU.out uu).cx rfl
                have e5 := fun uu => ((HPU.out uu).c.cell HNI.out).trans (congrArg (fun b => some (Value.bool b)) hcl)
                have e6 := fun uu => cell_row (j := 0) (HPU.out uu).ox rfl
                have e7 : ∀ uu, (fU uu).cell? ⟨kb, 3, none⟩ = some (.slice (some ⟨b, off, none⟩) N c) := fun uu => by rw [HNN.out]; exact cell_row (j := 3) (HPU.out uu).g.l.k rfl
                have e8 := HX0.out
                clear hse hcl
                refine wpIn_region_cls fU (by kernel_rfl) hfm (by kernel_rfl) (HU2.out _ ⟨rfl, rfl, rfl, Nat.le_refl _, fun _ _ => rfl⟩) ?_
                repeat (gi_big_quiet_step (fail))
                refine wpQuietIn_nil ?_
                rintro w3 ⟨uu, rfl⟩
                clear e1 e2 e3 e4 e5 e6 e7 e8
                have B12 := Lib.hid (HU1.out uu)
                have P12 := Lib.hid (HPU.out uu)
                clear HU1 HU2 HPU HX0
                generalize fU uu = w12 at *
                have zz := cell_row (j := 0) (kept HZB.out B12.out) rfl
                have lz2 := heap_lt (kept HZB.out B12.out)
                have n3 := cell_row (j := 3) P12.out.nx rfl
                have ln := heap_lt P12.out.nx
                rw [← HZL.out] at n3
                have y0 := cell_row (j := 0) P12.out.yx rfl
                have ly := heap_lt P12.out.yx
                have HRT := Lib.hid (yroute_any y Z (ni : Int) w12 P12.out.g.l.yd (by rw [hN7]; omega))
                rw [hN7, show Z.A.at N (ni : Int) = Z.A.R ni by unfold AS.at; rw [if_pos ⟨by omega, by omega⟩]; rfl] at HRT
                obtain ⟨r, hr⟩ : ∃ r, r = Z.A.R ni := ⟨_, rfl⟩
                rw [← hr] at HRT HP3
                clear hr
                obtain ⟨ph, tm, us, rl⟩ := r
                unfold RS.val at HRT
                dsimp only at HP3 HRT
                obtain rfl : ph = 3 := HP3.out
                have hf : ∀ W, (Instr.field 43 (.agg #[.int .u8 3, .int .u16 (tm : Int), .int .u32 (us : Int), .int .u32 (rl : Int)]) 0).run Try.prog W = .ok (.int .u8 3) W := fun W => by kernel_rfl
                gi_wp2_with (fail)
                refine ⟨trivial, (CallsIn.inRound _ (callsIn_wide.2 HRT.out)).mono ?_⟩
                rintro e w13 ⟨rfl, hb13⟩
                have B13 : Hid (Below W.heap.size W w13) := B12.out.trans (hb13.mono B12.out.size)
                have zz3 := cell_row (j := 0) (kept HZB.out B13.out) rfl
                have lz3 := heap_lt (kept HZB.out B13.out)
                have n33 := cell_row (j := 3) (P11.out.below B13.out).nx rfl
                rw [← HZL.out] at n33
                have ln3 := heap_lt (P11.out.below B13.out).nx
                have hb3 := HB3.out
                have FIN : Hid (KeepsFrom w10.heap.size W w13 ∧ (KeepF Fb W w13 ∧ W.heap.size ≤ w13.heap.size) ∧ Below w10.heap.size w10 w13) := ⟨⟨B13.out.size, fun k o' hk hko hoc => kept hko B13.out⟩, ⟨KeepF.below B13.out, B13.out.size⟩, HBI.out.trans (B13.out.mono HBI.out.size)⟩
                clear zz lz2 n3 ln y0 ly hb13 HRT
                gi_wp2_with (fail)
                exact FIN.out
          -- }DEV
    case pos =>
    -- DEV{
    obtain ⟨b, off, C, e, hb', hc, hR⟩ := HR.out.cells (i := j) (by rw [← HNN.out]; exact hjl)
    cases e
    have hbl := IN5.out.s.g.l.b
    have x0 := (hbl.cell hb').trans (hc 0 (by omega)); have x1 := (hbl.cell hb').trans (hc 1 (by omega)); have x2 := (hbl.cell hb').trans (hc 2 (by omega)); have x3 := (hbl.cell hb').trans (hc 3 (by omega)); have x4 := (hbl.cell hb').trans (hc 4 (by omega)); have x5 := (hbl.cell hb').trans (hc 5 (by omega))
    rw [Nat.add_zero] at x0
    have lr : b < w5.heap.size := Nat.lt_of_lt_of_le hb' hbl.size
    obtain ⟨A, hA⟩ : ∃ A, A = T.rts.getD j rt0 := ⟨_, rfl⟩
    rw [← hA] at hR
    have HAA := Lib.hid hA
    obtain ⟨⟨ta, tc, ht, ht1, ht2, _⟩, _⟩ := id hR.tr
    obtain ⟨⟨pa, pc, hp, _⟩, _⟩ := id hR.pts
    obtain ⟨⟨cca, cc, hcn, _⟩, _⟩ := id hR.con
    have HTR : Hid (IntsAt w (.slice ta A.tr.length tc) A.tr) := ht ▸ hR.tr
    rw [hR.sig] at x0; rw [ht] at x1; rw [hp] at x2; rw [hR.app] at x3; rw [hcn] at x4; rw [hR.hold] at x5
    obtain ⟨w6, hw6⟩ : ∃ W, W = w5.alloc (.cells #[.int .i64 A.sig, .slice ta A.tr.length tc, .slice pa A.pts.length pc, .int .i64 A.app, .slice cca A.con.length cc, .int .u16 (A.hold : Int)] 41) := ⟨_, rfl⟩
    have B56 : Hid (Below w5.heap.size w5 w6) := by rw [hw6]; exact alloc_below _ _
    have Q6 : Hid (w6.heap[w5.heap.size]? = some (.cells #[.int .i64 A.sig, .slice ta A.tr.length tc, .slice pa A.pts.length pc, .int .i64 A.app, .slice cca A.con.length cc, .int .u16 (A.hold : Int)] 41 (0, 0))) := by rw [hw6]; exact heap_alloc_new _ _
    have HW6 := Lib.hid hw6
    have IN6 := Lib.hid (IN5.out.below B56.out)
    have HX6 := Lib.hid (kept HX5.out B56.out)
    have DS6 : Hid (∀ D ∈ ds, w6.heap[D]? = some (.deferred (some [])) ∧ ¬ y.M D ∧ D ≠ rb ∧ w.heap.size ≤ D) := fun D hD => ⟨kept (DS5.out D hD).1 B56.out, (DS5.out D hD).2⟩
    have HQB : Hid (hb + 5 ≤ w5.heap.size) := by have := heap_lt IN5.out.sx; have := HBK.out.e4; show _ ≤ _; omega
    unfold maxLen at ht2
    clear hw6 hA hR hc hb' hbl ht hp hcn
    gi_upto_region 18 with (fail)
    rw [← HW6.out]
    obtain ⟨qb, hqb⟩ : ∃ b, b = w5.heap.size := ⟨_, rfl⟩
    rw [← hqb] at Q6 HQB ⊢
    clear hqb HW6 x0 x1 x2 x3 x4 x5 lr B56 IN5 HX5 DS5
    gi_cut [] from 999 (fun wx => InAt w kb rb #[.int .i64 T.tracks, .slice va T.pts.length vc, .int .i64 T.sigs, .slice (some ⟨b, off, none⟩) T.rts.length c] y yb ob Y cb sb ca sa N (updB (clrF T Y.tn j) j true) (setF Y.A.R (j + 1)) wx ∧ wx.heap[hb]? = some (.cells #[.slice none 0 0] 22 (0, 0)) ∧ (∀ D ∈ ds, wx.heap[D]? = some (.deferred (some [])) ∧ ¬ y.M D ∧ D ≠ rb ∧ w.heap.size ≤ D) ∧ wx.heap[qb]? = w6.heap[qb]?)
    case first =>
      obtain ⟨oq, hoq⟩ : ∃ o, w6.heap[qb]? = some o := ⟨_, Q6.out⟩
      have RD6 : Hid (RdAt w kb rb #[.int .i64 T.tracks, .slice va T.pts.length vc, .int .i64 T.sigs, .slice (some ⟨b, off, none⟩) T.rts.length c] y yb ob Y hb cb sb ca sa N ds qb oq (clrF T Y.tn j) (setF Y.A.R j) w6) := ⟨IN6.out, HX6.out, DS6.out, hoq⟩
      have HFIN : Hid (∀ W, RdAt w kb rb #[.int .i64 T.tracks, .slice va T.pts.length vc, .int .i64 T.sigs, .slice (some ⟨b, off, none⟩) T.rts.length c] y yb ob Y hb cb sb ca sa N ds qb oq (updB (clrF T Y.tn j) j true) (updB (setF Y.A.R j) j ((Y.A.R j).ph == 1)) W → InAt w kb rb #[.int .i64 T.tracks, .slice va T.pts.length vc, .int .i64 T.sigs, .slice (some ⟨b, off, none⟩) T.rts.length c] y yb ob Y cb sb ca sa N (updB (clrF T Y.tn j) j true) (setF Y.A.R (j + 1)) W ∧ W.heap[hb]? = some (.cells #[.slice none 0 0] 22 (0, 0)) ∧ (∀ D ∈ ds, W.heap[D]? = some (.deferred (some [])) ∧ ¬ y.M D ∧ D ≠ rb ∧ w.heap.size ≤ D) ∧ W.heap[qb]? = w6.heap[qb]?) := fun W hW => by
        rw [setF_succ]
        exact ⟨hW.i, hW.h, hW.d, hW.q.trans hoq.symm⟩
      have RDD := Lib.hid (RD6.out.below (W' := w6.drew) ⟨rfl, rfl, rfl, Nat.le_refl _, fun _ _ => rfl⟩)
      have RDC := Lib.hid (RDD.out.setC HBK.out HDL.out HQB.out j true)
      have HRT : Hid (∀ W, YdAt W y Y → Calls Try.prog 11 #[.pointer (some ⟨y.g, 0, none⟩), .int .i64 (j : Int)] W fun e w' => e = .returned (Y.A.R j).val ∧ Below W.heap.size W w') := fun W hW => by
        have h := yroute_any y Y (j : Int) W hW (by rw [HYT.out, ← HNN.out]; omega)
        rw [HYT.out, ← HNN.out] at h
        have hat : Y.A.at N (j : Int) = Y.A.R j := by unfold AS.at; rw [if_pos ⟨by omega, by omega⟩]; rfl
        rw [hat] at h
        exact h
      have HSV : Hid (∀ V fc fs, RdAt w kb rb #[.int .i64 T.tracks, .slice va T.pts.length vc, .int .i64 T.sigs, .slice (some ⟨b, off, none⟩) T.rts.length c] y yb ob Y hb cb sb ca sa N ds qb oq fc fs V → (V.cell? ⟨cb, 0, none⟩ = some (.slice (some ⟨ca, 0, none⟩) N N) ∧ V.cell? ⟨sb, 0, none⟩ = some (.slice (some ⟨sa, 0, none⟩) N N) ∧ V.cell? ⟨yb, 0, none⟩ = some (.pointer (some ⟨y.g, 0, none⟩)) ∧ V.frozen? ⟨ca, j, none⟩ = false ∧ V.frozen? ⟨sa, j, none⟩ = false) ∧ cb < V.heap.size ∧ sb < V.heap.size ∧ yb < V.heap.size ∧ ca < V.heap.size ∧ sa < V.heap.size) := fun V fc fs h =>
        ⟨⟨cell_row h.i.cx rfl, cell_row h.i.sx rfl, cell_row h.i.s.yx rfl, h.i.c.frozen j, h.i.st.frozen j⟩, heap_lt h.i.cx, heap_lt h.i.sx, heap_lt h.i.s.yx, h.i.c.lt, h.i.st.lt⟩
      have rd0 := RDD.out.i.c.cell hjl
      have HJL := Lib.hid hjl
      obtain ⟨r, hr⟩ : ∃ r, r = Y.A.R j := ⟨_, rfl⟩
      rw [← hr] at HRT HFIN
      clear hr hoq IN6 HX6 DS6 Q6
      obtain ⟨ph, tm, us, rl⟩ := r
      unfold RS.val at HRT
      dsimp only at HFIN HRT
      have HPH : Hid (((ph : Int) == 1) = (ph == 1)) := by show _ = _; exact Bool.eq_iff_iff.2 (by simp only [beq_iff_eq]; omega)
      have hf : ∀ W, (Instr.field 43 (.agg #[.int .u8 (ph : Int), .int .u16 (tm : Int), .int .u32 (us : Int), .int .u32 (rl : Int)]) 0).run Try.prog W = .ok (.int .u8 (ph : Int)) W := fun W => by kernel_rfl
      refine wpIn_wide.2 ?_
      rw [← HPH.out] at HFIN
      go_region_held3 (fun V => (V.cell? ⟨cb, 0, none⟩ = some (.slice (some ⟨ca, 0, none⟩) N N) ∧ V.cell? ⟨sb, 0, none⟩ = some (.slice (some ⟨sa, 0, none⟩) N N) ∧ V.cell? ⟨yb, 0, none⟩ = some (.pointer (some ⟨y.g, 0, none⟩)) ∧ V.frozen? ⟨ca, j, none⟩ = false ∧ V.frozen? ⟨sa, j, none⟩ = false) ∧ cb < V.heap.size ∧ sb < V.heap.size ∧ yb < V.heap.size ∧ ca < V.heap.size ∧ sa < V.heap.size)
        (first | exact HSV.out _ _ _ R7.out | exact HSV.out _ _ _ (R7.out.setC HBK.out HDL.out HQB.out j true) | exact HSV.out _ _ _ (R7.out.setS HBK.out HDL.out HQB.out j ((ph : Int) == 1)) | exact HSV.out _ _ _ ((R7.out.setC HBK.out HDL.out HQB.out j true).setS HBK.out HDL.out HQB.out j ((ph : Int) == 1)) | exact HSV.out _ _ _ ((R7.out.setS HBK.out HDL.out HQB.out j ((ph : Int) == 1)).setC HBK.out HDL.out HQB.out j true) | exact HSV.out _ _ _ RDC.out | exact HSV.out _ _ _ RDD.out)
        (first
          | (go_at_call 11; (with_reducible refine (HRT.out _ RDC.out.i.s.g.l.yd).mono ?_); rintro e w7 ⟨rfl, hb7⟩; have R7 := Lib.hid (RDC.out.below hb7); have r1 := R7.out.i.st.cell HJL.out; clear hb7)
          | (go_at_call 11; (with_reducible refine (HRT.out _ RDD.out.i.s.g.l.yd).mono ?_); rintro e w7 ⟨rfl, hb7⟩; have R7 := Lib.hid (RDD.out.below hb7); have r0 := R7.out.i.c.cell HJL.out; have r1 := R7.out.i.st.cell HJL.out; have r2 := (R7.out.setC HBK.out HDL.out HQB.out j true).i.st.cell HJL.out; have r3 := (R7.out.setS HBK.out HDL.out HQB.out j ((ph : Int) == 1)).i.c.cell HJL.out; clear hb7))
      have RF := (R7.out.setC HBK.out HDL.out HQB.out j true).setS HBK.out HDL.out HQB.out j ((ph : Int) == 1)
      go_wp2_with fail
      go_meet
      case rel => exact HFIN.out _ RF
    case rest =>
      obtain ⟨h1, h2, h3, h4⟩ := hcut
      obtain ⟨oq, hoq⟩ : ∃ o, o = (Obj.cells #[.int .i64 A.sig, .slice ta A.tr.length tc, .slice pa A.pts.length pc, .int .i64 A.app, .slice cca A.con.length cc, .int .u16 (A.hold : Int)] 41) := ⟨_, rfl⟩
      have HOQ := Lib.hid hoq
      have RD6 : Hid (RdAt w kb rb #[.int .i64 T.tracks, .slice va T.pts.length vc, .int .i64 T.sigs, .slice (some ⟨b, off, none⟩) T.rts.length c] y yb ob Y hb cb sb ca sa N ds qb oq (updB (clrF T Y.tn j) j (clrN T Y.tn A.tr 0)) (setF Y.A.R (j + 1)) wc) := ⟨h1, h2, h3, by rw [h4, hoq]; exact Q6.out⟩
      clear h1 h2 h3 h4 hoq IN6 HX6 DS6 Q6
      obtain ⟨w7, rfl⟩ : ∃ x, x = wc := ⟨_, rfl⟩
      have q1 : w7.cell? ⟨qb, 1, none⟩ = some (.slice ta A.tr.length tc) := by have := RD6.out.q; rw [HOQ.out] at this; exact cell_row (j := 1) this rfl
      have lq := heap_lt RD6.out.q
      obtain ⟨L, hL⟩ : ∃ l, l = A.tr.length := ⟨_, rfl⟩
      have HLL := Lib.hid hL
      rw [← hL] at q1 ht1
      clear hL
      gi_upto_region 20 with (fail)
      clear q1 lq
      gi_loopw [77] (fun i wr => ∃ t : Nat, t ≤ L ∧ i = .int .i64 t ∧ RdAt w kb rb #[.int .i64 T.tracks, .slice va T.pts.length vc, .int .i64 T.sigs, .slice (some ⟨b, off, none⟩) T.rts.length c] y yb ob Y hb cb sb ca sa N ds qb oq (updB (clrF T Y.tn j) j (clrN T Y.tn A.tr t)) (setF Y.A.R (j + 1)) wr) (fun i _ => L - (intOf i).toNat)
      case atStart => exact ⟨0, Nat.zero_le _, rfl, RD6.out⟩
      case round =>
        clear RD6
        obtain ⟨t, htl, rfl, h1⟩ := hrel
        have RD7 := Lib.hid h1
        clear h1
        obtain ⟨w7, rfl⟩ : ∃ x : World, x = wr := ⟨_, rfl⟩
        by_cases htt : t < L
        case neg =>
          obtain rfl : L = t := by omega
          have HFF : Hid (updB (clrF T Y.tn j) j (clrN T Y.tn A.tr L) = clrF T Y.tn (j + 1)) := by show _ = _; rw [clrF_succ, ← HAA.out, HLL.out]
          gi_wp2_with (fail)
          go_roundw
          case rel => exact ⟨j + 1, by omega, by go_num, by rw [← HFF.out]; exact RD7.out.i, RD7.out.h, RD7.out.d⟩
          case measure => simp [intOf]; omega
        case pos =>
        obtain ⟨tb', toff, rfl, htb', htx⟩ := (HTR.out.below RD7.out.i.s.g.l.b).cell (i := t) (by rw [← HLL.out]; exact htt)
        have HCN : Hid (clrN T Y.tn A.tr (t + 1) = (clrN T Y.tn A.tr t && clearB T Y.tn (A.tr.getD t 0))) := rfl
        obtain ⟨tx, htxx⟩ : ∃ x, x = A.tr.getD t 0 := ⟨_, rfl⟩
        rw [← htxx] at htx HCN
        clear htxx
        have htl' := htb'
        gi_upto_region 22 with (fail)
        clear htx htb' htl'
        have HSV : Hid (∀ V fc fs, RdAt w kb rb #[.int .i64 T.tracks, .slice va T.pts.length vc, .int .i64 T.sigs, .slice (some ⟨b, off, none⟩) T.rts.length c] y yb ob Y hb cb sb ca sa N ds qb oq fc fs V → (V.cell? ⟨cb, 0, none⟩ = some (.slice (some ⟨ca, 0, none⟩) N N) ∧ V.cell? ⟨yb, 0, none⟩ = some (.pointer (some ⟨y.g, 0, none⟩)) ∧ V.cell? ⟨ca, j, none⟩ = some (.bool (fc j)) ∧ V.frozen? ⟨ca, j, none⟩ = false) ∧ cb < V.heap.size ∧ yb < V.heap.size ∧ ca < V.heap.size) := fun V fc fs h =>
          ⟨⟨cell_row h.i.cx rfl, cell_row h.i.s.yx rfl, h.i.c.cell hjl, h.i.c.frozen j⟩, heap_lt h.i.cx, heap_lt h.i.s.yx, h.i.c.lt⟩
        have HAT : Hid (∀ v, updB (clrF T Y.tn j) j v j = v) := fun v => if_pos rfl
        have HUU : Hid (∀ v v', updB (updB (clrF T Y.tn j) j v) j v' = updB (clrF T Y.tn j) j v') := fun v v' => updB_updB _ _ _ _
        have HCLR : Hid (∀ W, YdAt W y Y → Calls Try.prog 12 #[.pointer (some ⟨y.g, 0, none⟩), .int .i64 tx] W fun e w' => e = .returned (.bool (clearB T Y.tn tx)) ∧ Below W.heap.size W w') := fun W hW => by
          have h := yclear_any y Y tx W hW HX.out.tok (by rw [HYT.out]; exact HFI.out.on)
          rw [HYT.out] at h
          exact h
        have HJL := Lib.hid hjl
        generalize clrN T Y.tn A.tr t = v at *
        generalize clearB T Y.tn tx = cl at *
        obtain ⟨U, fU, hUn, hU1, hU2⟩ := class_of (fun V => Below w7.heap.size w7 V) (W := w7.drew) ⟨rfl, rfl, rfl, Nat.le_refl _, fun _ _ => rfl⟩
        have HU1 := Lib.hid hU1; have HU2 := Lib.hid hU2
        clear hU1 hU2
        have hfm : (Try.prog).follows .mixedOrders = true := by kernel_rfl
        have HRU := Lib.hid (fun uu => RD7.out.below (HU1.out uu))
        have z1 := fun uu => (HSV.out _ _ _ (HRU.out uu)).1.1
        have z2 := fun uu => (HSV.out _ _ _ (HRU.out uu)).1.2.1
        have z3 := fun uu => ((HSV.out _ _ _ (HRU.out uu)).1.2.2.1).trans (congrArg (fun b => some (Value.bool b)) (HAT.out v))
        have HCR : Hid (∀ uu, CallsIn Fence.wide (n + 3) Try.prog 12 #[.pointer (some ⟨y.g, 0, none⟩), .int .i64 tx] (fU uu) fun e w' => e = .returned (.bool cl) ∧ ∃ uu', w' = fU uu') := fun uu => (callsIn_wide.2 (HCLR.out (fU uu) (HRU.out uu).i.s.g.l.yd)).mono (fun e w' ⟨he, hb⟩ => ⟨he, HU2.out _ ((HU1.out uu).trans (hb.mono (HU1.out uu).size))⟩)
        have hf_clr : Fence.wide.fn 12 := trivial
        cases v
        case false =>
          refine wpIn_region_tail_at 12 fU hfm rfl (by kernel_rfl) (HU2.out _ ⟨rfl, rfl, rfl, Nat.le_refl _, fun _ _ => rfl⟩) ?_
          simp only [List.take_succ_cons, List.take_zero, List.getD_cons_succ, List.getD_cons_zero]
          repeat (gi_big_quiet_step ((gi_at_call 12; (with_reducible exact HCR.out _))))
          refine wpQuietIn_nil ?_
          intro uu
          have RD8 := Lib.hid (HRU.out uu)
          clear z1 z2 z3 HU1 HU2 HCR HRU
          generalize fU uu = w8 at *
          have RF := RD8.out.setC HBK.out HDL.out HQB.out j false
          rw [HUU.out] at RF
          have fr := (HSV.out _ _ _ RD8.out).1.2.2.2
          have lc8 := (HSV.out _ _ _ RD8.out).2.2.2
          have c8 := (HSV.out _ _ _ RD8.out).1.2.2.1
          unfold Oper.wpIn
          go_simp
          generalize w8.setCell ⟨ca, j, none⟩ (.bool false) = w9 at *
          clear fr lc8 c8
          gi_wp2_with (fail)
          go_roundw
          case rel => exact ⟨t + 1, by omega, by go_num, by rw [HCN.out]; exact RF⟩
          case measure => simp [intOf]; omega
        case true =>
          refine wpIn_region_tail_at 12 fU hfm rfl (by kernel_rfl) (HU2.out _ ⟨rfl, rfl, rfl, Nat.le_refl _, fun _ _ => rfl⟩) ?_
          simp only [List.take_succ_cons, List.take_zero, List.getD_cons_succ, List.getD_cons_zero]
          repeat (gi_big_quiet_step ((gi_at_call 12; (with_reducible exact HCR.out _))))
          refine wpQuietIn_nil ?_
          intro uu
          have RD8 := Lib.hid (HRU.out uu)
          clear z1 z2 z3 HU1 HU2 HCR HRU
          generalize fU uu = w8 at *
          have RF := RD8.out.setC HBK.out HDL.out HQB.out j cl
          rw [HUU.out] at RF
          have fr := (HSV.out _ _ _ RD8.out).1.2.2.2
          have lc8 := (HSV.out _ _ _ RD8.out).2.2.2
          have c8 := (HSV.out _ _ _ RD8.out).1.2.2.1
          unfold Oper.wpIn
          go_simp
          generalize w8.setCell ⟨ca, j, none⟩ (.bool cl) = w9 at *
          clear fr lc8 c8
          gi_wp2_with (fail)
          go_roundw
          case rel => exact ⟨t + 1, by omega, by go_num, by rw [HCN.out]; exact RF⟩
          case measure => simp [intOf]; omega
    -- }DEV
set_option maxRecDepth 100000 in
theorem ysignals_any (v0 : Value) (a1 : Int) (a2 : Option Addr) (len2 cap2 : Nat) (w : World) (h0 : ReadsW w 25 v0.cells.toList ∧ Value.okWide Try.prog w .any 0 25 v0) (h1 : (Lit.int .i64 a1).wf = true) (h2 : ReadsW w 26 [.slice a2 len2 cap2]) :
    Calls Try.prog 3 #[v0, .int .i64 a1, .slice a2 len2 cap2] w fun e w' => e = .returned (.bool true) ∧ Below w.heap.size w w' := by
  obtain ⟨T, hT⟩ := reads_tab ⟨h0.1.c, h0.2⟩
  obtain ⟨l, hl⟩ := reads_mvss h2
  exact (callsIn_wide (n := 4)).1 (ysignals_in 0 v0 _ T a1 l w hT (tab_sm h0.1 hT) (i64ok_of h1) hl)
end Go.Proofs.Ytnjeiigdfdjccaa
