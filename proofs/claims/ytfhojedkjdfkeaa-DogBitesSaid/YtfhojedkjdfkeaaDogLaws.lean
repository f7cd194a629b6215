/- The walks of the dog's statements: each returns true. -/
import Derived.Test.YtfhojedkjdfkeaaDogWalks
namespace Go.Proofs.Ytfhojedkjdfkeaa
open Go.RowKit
set_option linter.unusedVariables false
set_option maxHeartbeats 2000000 in
theorem known_any (w : World) : Calls Try.prog 5 #[] w fun e w' => e = .returned (.bool true) ∧ Below w.heap.size w w' := by
  go_enter Try.func5, Try.ntmps5
  go_wp2_with fail
  refine (new_any 2 w (by omega) (by omega)).mono ?_
  rintro e w1 ⟨rfl, hd, hb, hz⟩
  have D1 := Lib.hid hd; have B1 := Lib.hid hb; have Z1 := Lib.hid hz
  clear hd hb hz
  go_wp2_with fail
  refine (frame_any w.heap.size 2 (0, false) (1, false) false _ D1.out (by omega) (by decide) (by decide)).mono ?_
  rintro e w2 ⟨rfl, hd, hg⟩
  have D2 := Lib.hid hd; have B2 : Hid (Below w.heap.size w w2) := B1.out.grown hg B1.out.size (by intro k hk; simp at hk; omega)
  clear hd hg
  go_wp2_with fail
  refine (frame_any w.heap.size 2 (1, false) (0, false) true _ D2.out (by omega) (by decide) (by decide)).mono ?_
  rintro e w3 ⟨rfl, hd, hg⟩
  have D3 := Lib.hid hd; have B3 : Hid (Below w.heap.size w w3) := B2.out.grown hg B2.out.size (by intro k hk; simp at hk; omega)
  clear hd hg
  go_wp2_with fail
  refine (frame_any w.heap.size 2 (0, false) (1, false) false _ D3.out (by omega) (by decide) (by decide)).mono ?_
  rintro e w4 ⟨rfl, hd, hg⟩
  have D4 := Lib.hid hd; have B4 : Hid (Below w.heap.size w w4) := B3.out.grown hg B3.out.size (by intro k hk; simp at hk; omega)
  clear hd hg
  go_wp2_with fail
  refine (left_any w.heap.size 2 (1, false) _ D4.out (by omega) (by decide)).mono ?_
  rintro e w5 ⟨rfl, hg⟩
  have D5 : Hid (DogAt w5 w.heap.size 2 (1, false)) := by
    show DogAt _ _ _ _
    unfold DogAt
    rw [hg.block _ (heap_lt D4.out) (by simp)]; exact D4.out
  have B5 : Hid (Below w.heap.size w w5) := B4.out.grown hg B4.out.size (by simp)
  clear hg
  go_wp2_with fail
  refine (frame_any w.heap.size 2 (1, false) (2, true) false _ D5.out (by omega) (by decide) (by decide)).mono ?_
  rintro e w6 ⟨rfl, hd, hg⟩
  have D6 := Lib.hid hd; have B6 : Hid (Below w.heap.size w w6) := B5.out.grown hg B5.out.size (by intro k hk; simp at hk; omega)
  clear hd hg
  go_wp2_with fail
  refine (frame_any w.heap.size 2 (2, true) (2, true) true _ D6.out (by omega) (by decide) (by decide)).mono ?_
  rintro e w7 ⟨rfl, hd, hg⟩
  have D7 := Lib.hid hd; have B7 : Hid (Below w.heap.size w w7) := B6.out.grown hg B6.out.size (by intro k hk; simp at hk; omega)
  clear hd hg
  go_wp2_with fail
  refine (left_any w.heap.size 2 (2, true) _ D7.out (by omega) (by decide)).mono ?_
  rintro e w8 ⟨rfl, hg⟩
  have B8 : Hid (Below w.heap.size w w8) := B7.out.grown hg B7.out.size (by simp)
  clear hg
  go_wp2_with fail
  refine (new_zero _).mono ?_
  rintro e w9 ⟨rfl, rfl⟩
  go_wp2_with fail
  refine (reset_nil _).mono ?_
  rintro e w10 ⟨rfl, rfl⟩
  go_wp2_with fail
  refine (frame_nil false _).mono ?_
  rintro e w11 ⟨rfl, rfl⟩
  go_wp2_with fail
  refine (bitten_nil _).mono ?_
  rintro e w12 ⟨rfl, rfl⟩
  go_wp2_with fail
  refine (left_nil _).mono ?_
  rintro e w13 ⟨rfl, rfl⟩
  go_wp2_with fail
  go_ret
  exact ⟨rfl, B8.out⟩

set_option maxHeartbeats 4000000 in
set_option maxRecDepth 100000 in
theorem frames_main (lim : Nat) (a : Option Addr) (len cap : Nat) (r : Int) (l : List Bool) (w : World) (hl0 : 0 < lim) (hl1 : lim < 256) (hlen : l.length = len) (hs : len ≤ 300) (hcap : len ≤ cap) (hmax : cap ≤ 9223372036854775807)
    (hr1 : -9223372036854775808 ≤ r) (hr2 : r ≤ 9223372036854775807) (hsl : SliceAt w a len (boolV l)) :
    Calls Try.prog 3 #[.int .u8 (lim : Int), .slice a len cap, .int .i64 r] w fun e w' => e = .returned (.bool true) ∧ Below w.heap.size w w' := by
  have HL := Lib.hid hsl; have HE := Lib.hid hlen
  clear hsl hlen
  have t1 : decide (300 < (len : Int)) = false := by simp; omega
  have t2 : ((lim : Int) == 0) = false := by simp; omega
  go_enter Try.func3, Try.ntmps3
  go_wp2_with fail
  refine (known_any _).mono ?_
  rintro e w1 ⟨rfl, hb1⟩
  have B1 := Lib.hid hb1; clear hb1
  go_wp2_with fail
  refine (new_any lim w1 hl0 hl1).mono ?_
  rintro e w2 ⟨rfl, hd, hb, hz⟩
  have D2 := Lib.hid hd; have B2 : Hid (Below w.heap.size w w2) := B1.out.trans (hb.mono B1.out.size)
  have hg0 : w.heap.size ≤ w1.heap.size := B1.out.size
  clear hd hb hz
  generalize w1.heap.size = g at *
  go_wp2_with fail
  refine (bitten_any g lim (0, false) _ D2.out).mono ?_
  rintro e w3 ⟨rfl, rfl⟩
  go_wp2_with fail
  refine (left_any g lim (0, false) _ D2.out (by omega) (by show 0 ≤ _; omega)).mono ?_
  rintro e w4 ⟨rfl, hg⟩
  have D4 : Hid (DogAt w4 g lim (0, false)) := by
    show DogAt _ _ _ _
    unfold DogAt
    rw [hg.block _ (heap_lt D2.out) (by simp)]; exact D2.out
  have B4 : Hid (Below w.heap.size w w4) := B2.out.grown hg B2.out.size (by simp)
  clear hg
  go_wp2_with fail
  clear t1 t2
  go_loopw [9, 47] (fun x i wr => ∃ k F : Nat, k ≤ len ∧ F ≤ k ∧ i = .int .i64 k ∧ x = .int .i64 F ∧ Below w.heap.size w wr ∧ DogAt wr g lim (Dp.st lim (l.drop F) (k - F))) (fun _ i _ => len - (intOf i).toNat)
  case atStart => exact ⟨0, 0, Nat.zero_le _, Nat.le_refl _, rfl, rfl, B4.out, D4.out⟩
  case round =>
    obtain ⟨k, F0, hk, hf, rfl, rfl, hB, hD⟩ := hrel
    have HB := Lib.hid hB; have HD := Lib.hid hD
    clear hB hD B4 D4 B2 D2 B1
    by_cases hlt : k < len
    · obtain ⟨b, off, rfl, hbl, hcells⟩ := HL.out.at (by omega)
      have hcell : wr.cell? ⟨b, off + k, none⟩ = some (.bool (l.getD k false)) := by rw [HB.out.cell hbl]; exact hcells k hlt
      clear hcells
      by_cases hrk : r = (k : Int)
      · subst hrk
        have hF : k ≤ k := Nat.le_refl k
        have hy : (l.drop k).getD 0 true = l.getD k false := by
          have hk : k < l.length := by rw [HE.out]; exact hlt
          simp only [List.getD_eq_getElem?_getD, List.getElem?_drop]
          rw [Nat.add_zero, List.getElem?_eq_getElem hk]; rfl
        have hst : Dp.step lim (Dp.st lim (l.drop k) 0) (l.getD k false) = Dp.st lim (l.drop k) 1 := by
          rw [show 1 = 0 + 1 from rfl, Dp.st_succ, hy]
        have hle := Dp.st_le lim (l.drop k) 0
        have hle2 := Dp.st_le lim (l.drop k) 1
        have hbit := (Dp.st_eq lim (l.drop k) hl0 1).1
        have hleft := Dp.left_eq lim (l.drop k) hl0 1
        have hc1 := refBitten_any lim (some ⟨b, off + k, none⟩) 1 (cap - k) (l.drop k)
        rw [← hbit] at hc1
        have HC1 := Lib.hid hc1
        have HC2 := Lib.hid (refLeft_any lim (some ⟨b, off + k, none⟩) 1 (cap - k) (l.drop k))
        have HST := Lib.hid hst
        have HLL : Hid (1 ≤ (l.drop k).length) := by show 1 ≤ (l.drop k).length; rw [List.length_drop, HE.out]; omega
        have HLE := Lib.hid hleft
        generalize Dp.left lim (l.drop k) 1 = lf at *
        obtain ⟨s', hs'⟩ : ∃ s', s' = Dp.st lim (l.drop k) 1 := ⟨_, rfl⟩
        have HSS := Lib.hid hs'
        rw [← hs'] at hle2 HC1 HST HLE
        clear hs'
        clear hbit hleft hc1 hst
        obtain ⟨s, hs0⟩ : ∃ s, s = Dp.st lim (l.drop k) 0 := ⟨_, rfl⟩
        have HS0 : Hid (s = (0, false)) := by show s = (0, false); rw [hs0]; rfl
        rw [← hs0] at hle HST
        clear hs0
        clear hy
        have i1 : (k : Int) ≤ (k : Int) + 1 := by omega
        have i2 : (k : Int) + 1 ≤ (cap : Int) := by omega
        have i3 : k < cap := by omega
        go_wp2_with fail
        refine (reset_any g lim _ _ HD.out).mono ?_
        rintro e w4b ⟨rfl, hd, hg⟩
        have HD2 : Hid (DogAt w4b g lim s) := by rw [HS0.out]; exact hd
        have HB2 : Hid (Below w.heap.size w w4b) := HB.out.grown hg HB.out.size (by intro k hk; simp at hk; omega)
        clear hd hg
        go_wp2_with fail
        refine (frame_any g lim s s' (l.getD k false) _ HD2.out (by omega) (by omega) HST.out).mono ?_
        rintro e w5 ⟨rfl, hd, hg⟩
        have D5 := Lib.hid hd
        have B5 : Hid (Below w.heap.size w w5) := HB2.out.grown hg HB2.out.size (by intro k hk; simp at hk; omega)
        have HY5 : Hid (SliceAt w5 (some ⟨b, off + k, none⟩) 1 (boolV (l.drop k))) := by
          have h1 := ((HL.out.below B5.out).drop k).le (show 1 ≤ len - k by omega)
          refine h1.congr fun i hi => ?_
          unfold boolV
          simp [List.getD_eq_getElem?_getD, List.getElem?_drop]
        clear hd hg
        go_wp2_with fail
        refine (HC1.out _ (by omega) (by omega) (by omega) (by omega) HY5.out HLL.out).mono ?_
        rintro e w6 ⟨rfl, rfl⟩
        go_wp2_with fail
        refine (bitten_any g lim s' _ D5.out).mono ?_
        rintro e w7 ⟨rfl, rfl⟩
        go_wp2_with fail
        refine (left_any g lim s' _ D5.out (by omega) (by omega)).mono ?_
        rintro e w8 ⟨rfl, hg⟩
        have D8 : Hid (DogAt w8 g lim s') := by
          show DogAt _ _ _ _
          unfold DogAt
          rw [hg.block _ (heap_lt D5.out) (by simp)]; exact D5.out
        have B8 : Hid (Below w.heap.size w w8) := B5.out.grown hg B5.out.size (by simp)
        have HY8 : Hid (SliceAt w8 (some ⟨b, off + k, none⟩) 1 (boolV (l.drop k))) := ((((HL.out.below B8.out).drop k).le (show 1 ≤ len - k by omega)).congr fun i hi => by unfold boolV; simp [List.getD_eq_getElem?_getD, List.getElem?_drop])
        clear hg
        go_wp2_with fail
        refine (HC2.out _ (by omega) (by omega) (by omega) (by omega) hl0 HY8.out HLL.out).mono ?_
        rintro e w9 ⟨rfl, rfl⟩
        rw [HLE.out]
        go_wp2_with fail
        go_roundw
        case rel => exact ⟨k + 1, k, by omega, by omega, by go_num, rfl, B8.out, by rw [show k + 1 - k = 1 from by omega, ← HSS.out]; exact D8.out⟩
        case measure => simp [intOf]; omega
      · have trk : ((k : Int) == r) = false := by simp; omega
        clear hrk
        have hy : (l.drop F0).getD (k - F0) true = l.getD k false := by
          have hk : k < l.length := by rw [HE.out]; exact hlt
          simp only [List.getD_eq_getElem?_getD, List.getElem?_drop]
          rw [show F0 + (k - F0) = k from by omega, List.getElem?_eq_getElem hk]; rfl
        have hst : Dp.step lim (Dp.st lim (l.drop F0) (k - F0)) (l.getD k false) = Dp.st lim (l.drop F0) (k + 1 - F0) := by
          rw [show k + 1 - F0 = (k - F0) + 1 from by omega, Dp.st_succ, hy]
        have hle := Dp.st_le lim (l.drop F0) (k - F0)
        have hle2 := Dp.st_le lim (l.drop F0) (k + 1 - F0)
        have hbit := (Dp.st_eq lim (l.drop F0) hl0 (k + 1 - F0)).1
        have hleft := Dp.left_eq lim (l.drop F0) hl0 (k + 1 - F0)
        have hc1 := refBitten_any lim (some ⟨b, off + F0, none⟩) (k + 1 - F0) (cap - F0) (l.drop F0)
        rw [← hbit] at hc1
        have HC1 := Lib.hid hc1
        have HC2 := Lib.hid (refLeft_any lim (some ⟨b, off + F0, none⟩) (k + 1 - F0) (cap - F0) (l.drop F0))
        have HST := Lib.hid hst
        have HLL : Hid (k + 1 - F0 ≤ (l.drop F0).length) := by show k + 1 - F0 ≤ (l.drop F0).length; rw [List.length_drop, HE.out]; omega
        have HLE := Lib.hid hleft
        generalize Dp.left lim (l.drop F0) (k + 1 - F0) = lf at *
        obtain ⟨s', hs'⟩ : ∃ s', s' = Dp.st lim (l.drop F0) (k + 1 - F0) := ⟨_, rfl⟩
        have HSS := Lib.hid hs'
        rw [← hs'] at hle2 HC1 HST HLE
        clear hs'
        clear hbit hleft hc1 hst
        generalize Dp.st lim (l.drop F0) (k - F0) = s at *
        clear hy
        have i1 : (F0 : Int) ≤ (k : Int) + 1 := by omega
        have i2 : (k : Int) + 1 ≤ (cap : Int) := by omega
        have i3 : F0 < cap := by omega
        have HD2 := HD; have HB2 := HB
        go_wp2_with fail
        refine (frame_any g lim s s' (l.getD k false) _ HD2.out (by omega) (by omega) HST.out).mono ?_
        rintro e w5 ⟨rfl, hd, hg⟩
        have D5 := Lib.hid hd
        have B5 : Hid (Below w.heap.size w w5) := HB2.out.grown hg HB2.out.size (by intro k hk; simp at hk; omega)
        have HY5 : Hid (SliceAt w5 (some ⟨b, off + F0, none⟩) (k + 1 - F0) (boolV (l.drop F0))) := by
          have h1 := ((HL.out.below B5.out).drop F0).le (show k + 1 - F0 ≤ len - F0 by omega)
          refine h1.congr fun i hi => ?_
          unfold boolV
          simp [List.getD_eq_getElem?_getD, List.getElem?_drop]
        clear hd hg
        go_wp2_with fail
        refine (HC1.out _ (by omega) (by omega) (by omega) (by omega) HY5.out HLL.out).mono ?_
        rintro e w6 ⟨rfl, rfl⟩
        go_wp2_with fail
        refine (bitten_any g lim s' _ D5.out).mono ?_
        rintro e w7 ⟨rfl, rfl⟩
        go_wp2_with fail
        refine (left_any g lim s' _ D5.out (by omega) (by omega)).mono ?_
        rintro e w8 ⟨rfl, hg⟩
        have D8 : Hid (DogAt w8 g lim s') := by
          show DogAt _ _ _ _
          unfold DogAt
          rw [hg.block _ (heap_lt D5.out) (by simp)]; exact D5.out
        have B8 : Hid (Below w.heap.size w w8) := B5.out.grown hg B5.out.size (by simp)
        have HY8 : Hid (SliceAt w8 (some ⟨b, off + F0, none⟩) (k + 1 - F0) (boolV (l.drop F0))) := ((((HL.out.below B8.out).drop F0).le (show k + 1 - F0 ≤ len - F0 by omega)).congr fun i hi => by unfold boolV; simp [List.getD_eq_getElem?_getD, List.getElem?_drop])
        clear hg
        go_wp2_with fail
        refine (HC2.out _ (by omega) (by omega) (by omega) (by omega) hl0 HY8.out HLL.out).mono ?_
        rintro e w9 ⟨rfl, rfl⟩
        rw [HLE.out]
        go_wp2_with fail
        go_roundw
        case rel => exact ⟨k + 1, F0, by omega, by omega, by go_num, rfl, B8.out, by rw [← HSS.out]; exact D8.out⟩
        case measure => simp [intOf]; omega
    · obtain rfl : k = len := by omega
      go_wp2_with fail
      go_ret
      exact ⟨rfl, HB.out⟩

set_option maxHeartbeats 1000000 in
theorem frames_big (a : Option Addr) (len cap : Nat) (x r : Int) (w : World) (hs : 300 < len) (hm : len ≤ 9223372036854775807) :
    Calls Try.prog 3 #[.int .u8 x, .slice a len cap, .int .i64 r] w fun e w' => e = .returned (.bool true) ∧ Below w.heap.size w w' := by
  have t1 : decide (300 < (len : Int)) = true := by simp; omega
  go_enter Try.func3, Try.ntmps3
  go_wp2_with fail
  refine (known_any _).mono ?_
  rintro e w1 ⟨rfl, hb1⟩
  have B1 := Lib.hid hb1; clear hb1
  go_wp2_with fail
  go_ret
  exact ⟨rfl, B1.out⟩
set_option maxHeartbeats 1000000 in
theorem frames_zero (a : Option Addr) (len cap : Nat) (r : Int) (w : World) (hs : len ≤ 300) :
    Calls Try.prog 3 #[.int .u8 0, .slice a len cap, .int .i64 r] w fun e w' => e = .returned (.bool true) ∧ Below w.heap.size w w' := by
  have t1 : decide (300 < (len : Int)) = false := by simp; omega
  go_enter Try.func3, Try.ntmps3
  go_wp2_with fail
  refine (known_any _).mono ?_
  rintro e w1 ⟨rfl, hb1⟩
  have B1 := Lib.hid hb1; clear hb1
  go_wp2_with fail
  refine (new_zero _).mono ?_
  rintro e w2 ⟨rfl, rfl⟩
  go_wp2_with fail
  go_ret
  exact ⟨rfl, B1.out⟩
theorem boolCells : Try.prog.cellsOf 4 = 1 := by kernel_rfl
theorem frames_walk (x : Int) (a : Option Addr) (len cap : Nat) (r : Int) (w : World) (wx : (Lit.int .u8 x).wf = true) (hr : ReadsC w 22 [.slice a len cap]) (wr : (Lit.int .i64 r).wf = true) :
    Calls Try.prog 3 #[.int .u8 x, .slice a len cap, .int .i64 r] w fun e w' => e = .returned (.bool true) ∧ Below w.heap.size w w' := by
  obtain ⟨h0, h1⟩ := bounds_u8 wx
  obtain ⟨r0, r1⟩ := bounds_i64 wr
  obtain ⟨l, hlen, hcap, hmax, hsl⟩ := reads_bools Try.underlying22 Try.underlying4 boolCells hr
  unfold maxLen at hmax
  by_cases hs : 300 < len
  · exact frames_big a len cap x r w hs (by omega)
  · obtain ⟨lim, rfl⟩ := Int.eq_ofNat_of_zero_le h0
    by_cases hl : lim = 0
    · subst hl; exact frames_zero a len cap r w (by omega)
    · exact frames_main lim a len cap r l w (by omega) (by omega) hlen (by omega) hcap hmax r0 r1 hsl

/-! ### DogBites -/
set_option maxHeartbeats 1000000 in
theorem bites_out (a : Option Addr) (len cap : Nat) (x y : Int) (w : World) (hx : 0 ≤ x) (hx2 : x ≤ 255) (hy : 0 ≤ y) (hy2 : y ≤ 255) (hm : len ≤ 9223372036854775807) (h : 1000 < len ∨ x = 0 ∨ 255 < x + y) :
    Calls Try.prog 4 #[.int .u8 x, .slice a len cap, .int .u8 y] w fun e w' => e = .returned (.bool true) ∧ Below w.heap.size w w' := by
  by_cases q1 : 1000 < (len : Int)
  · have t1 : decide (1000 < (len : Int)) = true := by simp; omega
    clear h
    go_enter Try.func4, Try.ntmps4
    go_wp2_with fail
    refine (known_any _).mono ?_
    rintro e w1 ⟨rfl, hb1⟩
    have B1 := Lib.hid hb1; clear hb1
    go_wp2_with fail
    go_ret
    exact ⟨rfl, B1.out⟩
  · have t1 : decide (1000 < (len : Int)) = false := by simp; omega
    by_cases q2 : x = 0
    · subst q2
      clear h
      go_enter Try.func4, Try.ntmps4
      go_wp2_with fail
      refine (known_any _).mono ?_
      rintro e w1 ⟨rfl, hb1⟩
      have B1 := Lib.hid hb1; clear hb1
      go_wp2_with fail
      go_ret
      exact ⟨rfl, B1.out⟩
    · have t2 : (x == 0) = false := by simp; omega
      have t3 : decide (255 < x + y) = true := by simp; omega
      clear h
      go_enter Try.func4, Try.ntmps4
      go_wp2_with fail
      refine (known_any _).mono ?_
      rintro e w1 ⟨rfl, hb1⟩
      have B1 := Lib.hid hb1; clear hb1
      go_wp2_with fail
      go_ret
      exact ⟨rfl, B1.out⟩
end Go.Proofs.Ytfhojedkjdfkeaa
