/- The walk of HealthOwn. -/
import Derived.Test.YtfbbmapihgepmaaHeaOwnP
namespace Go.Proofs.Ytfbbmapihgepmaa
open Go.RowKit
set_option linter.unusedVariables false
theorem safe_is (g : Nat) (S : HMon) (b : Bool) (w : World) (h : MonAt w g S) (hb : S.safe = b) : Calls Try.prog 20 #[.pointer (some ⟨g, 0, none⟩)] w fun e w' => e = .returned (.bool b) ∧ w = w' := by
  subst hb; exact safe_any g S w h
theorem Fits.more {S : HMon} {k : Nat} (h : Fits S k) : Fits S (k + 1) := ⟨h.n8, h.d, fun i hi => by have := h.rs i hi; omega⟩
set_option maxHeartbeats 16000000 in
set_option maxRecDepth 100000 in
theorem own_good (a : Option Addr) (len cap : Nat) (s : Option Addr) (n scap : Nat) (Q : Int) (D : Nat → HDef) (L : Nat → DoRec) (w : World) (h8 : len ≤ 8) (hn : n ≤ 500) (hq0 : -9223372036854775808 ≤ Q) (hq1 : Q ≤ 9223372036854775807) (hD : DefsAt w a len D) (hL : DosAt w s n L) (hc : checkV D len = 0) :
    Calls Try.prog 4 #[.slice a len cap, .slice s n scap, .int .i64 Q] w fun e w' => e = .returned (.bool true) ∧ Below w.heap.size w w' := by
  have HD := Lib.hid hD; have HL := Lib.hid hL; have HCV := Lib.hid hc
  clear hD hL hc
  have t1 : decide (100 < (len : Int)) = false := by simp; omega
  have t2 : decide (500 < (n : Int)) = false := by simp; omega
  go_enter Try.func4, Try.ntmps4
  go_wp2_with fail
  refine (known_any _).mono ?_
  rintro e w1 ⟨rfl, hb1⟩
  have B1 := Lib.hid hb1; clear hb1
  go_wp2_with fail
  refine (new_good a len cap D _ h8 (HD.out.below B1.out) HCV.out).mono ?_
  rintro e w2 ⟨g, rfl, h1, h2, hM, hB⟩
  have B2 : Hid (Below w.heap.size w w2) := B1.out.trans (hB.mono B1.out.size)
  have M2 := Lib.hid hM
  have hg : w.heap.size ≤ g := Nat.le_trans B1.out.size h1
  have hgl := h2
  clear h1 h2 hM hB
  go_wp2_with fail
  refine (new_good a len cap D _ h8 (HD.out.below B2.out) HCV.out).mono ?_
  rintro e w3 ⟨h, rfl, h1, h2, hM, hB⟩
  have B3 : Hid (Below w.heap.size w w3) := B2.out.trans (hB.mono B2.out.size)
  have M3 := Lib.hid (M2.out.below hB)
  have O3 := Lib.hid hM
  have HNE : Hid (g < h) := Nat.lt_of_lt_of_le hgl h1
  have hh : w.heap.size ≤ h := Nat.le_trans B2.out.size h1
  clear h1 h2 hM hB hgl
  go_wp2_with fail
  clear t1 t2
  go_loopw [50] (fun i wr => ∃ k : Nat, ∃ S O : HMon, k ≤ n ∧ i = .int .i64 k ∧ OInv Q len S O ∧ Fits S k ∧ Fits O k ∧ MonAt wr g S ∧ MonAt wr h O ∧ Below w.heap.size w wr) (fun i _ => n - (intOf i).toNat)
  case atStart =>
    have hfit : Fits (newMon D len len) 0 := by
      refine ⟨h8, fun i hi => ?_, fun i hi => ?_⟩
      · have hi' : i < len := hi
        have := HD.out.2 i hi'
        simp [newMon, hi']; exact this
      · have hi' : i < len := hi
        simp [newMon, hi']
    exact ⟨0, newMon D len len, newMon D len len, Nat.zero_le _, rfl, ⟨rfl, rfl, fun h => h, fun _ _ _ => rfl⟩, hfit, hfit, M3.out, O3.out, B3.out⟩
  case round =>
    obtain ⟨k, S, O, hk, rfl, hI, hF, hF2, hM, hO, hB⟩ := hrel
    clear M3 O3 B3 B2 M2 B1
    have HM := Lib.hid hM; have HB := Lib.hid hB; have HI := Lib.hid hI; have HF := Lib.hid hF; have HF2 := Lib.hid hF2; have HO := Lib.hid hO
    clear hM hB hI hF hF2 hO
    by_cases hlt : k < n
    · obtain ⟨sb, soff, rfl, hsl, hcells⟩ := HL.out.1.at (by omega)
      obtain ⟨-, ⟨hp0, hp1⟩, hrk⟩ := HL.out.2 k hlt
      have x0 : wr.cell? ⟨sb, soff + k * 6, none⟩ = some (.int .i64 (L k).kind) := by rw [HB.out.cell hsl]; exact hcells k hlt 0 (by omega)
      have x1 : wr.cell? ⟨sb, soff + k * 6 + 1, none⟩ = some (.int .i64 (L k).part) := by rw [HB.out.cell hsl]; exact hcells k hlt 1 (by omega)
      have x2 : wr.cell? ⟨sb, soff + k * 6 + 2, none⟩ = some (.int .u8 ((L k).rk : Int)) := by rw [HB.out.cell hsl]; exact hcells k hlt 2 (by omega)
      have x3 : wr.cell? ⟨sb, soff + k * 6 + 3, none⟩ = some (.int .u8 ((L k).rt : Int)) := by rw [HB.out.cell hsl]; exact hcells k hlt 3 (by omega)
      have x4 : wr.cell? ⟨sb, soff + k * 6 + 4, none⟩ = some (.int .u32 ((L k).used : Int)) := by rw [HB.out.cell hsl]; exact hcells k hlt 4 (by omega)
      have x5 : wr.cell? ⟨sb, soff + k * 6 + 5, none⟩ = some (.int .u32 ((L k).pc : Int)) := by rw [HB.out.cell hsl]; exact hcells k hlt 5 (by omega)
      clear hcells
      generalize (L k).kind = kd at *
      generalize (L k).part = p at *
      generalize (L k).rk = rk at *
      generalize (L k).rt = rt at *
      generalize (L k).used = us at *
      generalize (L k).pc = pc at *
      by_cases hkd : kd = 0
      · subst hkd
        have FS := Lib.hid (HF.out.ev p rk)
        have HE := Lib.hid (fun W h => event_gen g S p rk k (.int .u8 (rt : Int)) (.int .u32 (us : Int)) (.int .u32 (pc : Int)) W h HF.out hrk (by omega))
        have HOW := Lib.hid (fun hs => HI.out.own hs rk)
        have HOT := Lib.hid (HI.out.other p rk)
        have HSF := Lib.hid (ev_safe S p rk)
        have HRN := Lib.hid (ev_runs S p Q rk)
        obtain ⟨res, hres⟩ : ∃ res, res = S.ev p rk := ⟨_, rfl⟩
        have HRES := Lib.hid hres
        rw [← hres] at FS HE HOT HSF HRN
        obtain ⟨act, er, S'⟩ := res
        clear hres
        cases hs0 : S.safe with
        | true =>
          have S0 := Lib.hid hs0
          have hss : S' = S := (HSF.out hs0).1
          have ce : (er == 0) = false := (HSF.out hs0).2
          have S1 : Hid (S'.safe = true) := by show S'.safe = true; rw [hss]; exact hs0
          have hr0 : S.runs Q = false := by simp [HMon.runs, hs0]
          have R0 := Lib.hid hr0
          have R1 : Hid (S'.runs Q = false) := HRN.out hr0
          have OI : Hid (OInv Q len S' O) := HOT.out (.inr hs0)
          have RS : Hid (O.rst Q = S'.rst Q) := OI.out.rst.symm
          have FO : Hid (Fits O (k + 1)) := HF2.out.more
          clear hs0 hr0 hss HRES HSF HOW HOT HRN
          have cp : ((p == Q) = true ∨ (p == Q) = false) := by cases p == Q <;> simp
          rcases cp with cp | cp
          all_goals
            go_wp2_with fail
            refine (runs_is g S Q false _ (HM.out.alloc _) HF.out.n8 R0.out).mono ?_
            rintro e w4 ⟨rfl, rfl⟩
            go_wp2_with fail
            refine (safe_is g S true _ (HM.out.alloc _) S0.out).mono ?_
            rintro e w4 ⟨rfl, rfl⟩
            go_wp2_with fail
            refine (HE.out _ (HM.out.alloc _)).mono ?_
            rintro e w5 ⟨rfl, hM1, hG1⟩
            have HM1 : Hid (MonAt w5 g S') := hM1
            have HO1 : Hid (MonAt w5 h O) := (HO.out.alloc _).other hG1 (by have := HNE.out; omega)
            have HB1 : Hid (Below w.heap.size w w5) := (HB.out.alloc HB.out.size _).grown hG1 (by have := HB.out.size; simp; omega) (by intro k hk; simp at hk; omega)
            have HX : Hid (w5.heap[wr.heap.size]? = some (.cells #[.int .i64 0, .int .i64 p, .int .u8 (rk : Int), .int .u8 (rt : Int), .int .u32 (us : Int), .int .u32 (pc : Int)] 39 (0, 0))) := (hG1.block _ (by simp) (by have := heap_lt HM.out; intro he; simp at he; omega)).trans (heap_alloc_new _ _)
            have y1 : w5.cell? ⟨wr.heap.size, 1, none⟩ = some (.int .i64 p) := cell_row HX.out rfl
            have y2 : w5.cell? ⟨wr.heap.size, 2, none⟩ = some (.int .u8 (rk : Int)) := cell_row HX.out rfl
            have y3 : w5.cell? ⟨wr.heap.size, 3, none⟩ = some (.int .u8 (rt : Int)) := cell_row HX.out rfl
            have y4 : w5.cell? ⟨wr.heap.size, 4, none⟩ = some (.int .u32 (us : Int)) := cell_row HX.out rfl
            have y5 : w5.cell? ⟨wr.heap.size, 5, none⟩ = some (.int .u32 (pc : Int)) := cell_row HX.out rfl
            clear hM1 hG1
            go_wp2_with fail
            refine (safe_is g S' true _ HM1.out S1.out).mono ?_
            rintro e w5' ⟨rfl, rfl⟩
            go_wp2_with fail
            refine (runs_is g S' Q false _ HM1.out FS.out.n8 R1.out).mono ?_
            rintro e w5' ⟨rfl, rfl⟩
            go_wp2_with fail
            refine (safe_is g S' true _ HM1.out S1.out).mono ?_
            rintro e w7' ⟨rfl, rfl⟩
            go_wp2_with fail
            refine (restarts_any g S' Q _ HM1.out FS.out.n8).mono ?_
            rintro e w7' ⟨rfl, rfl⟩
            go_wp2_with fail
            refine (restarts_is h O Q (S'.rst Q) _ HO1.out FO.out.n8 RS.out).mono ?_
            rintro e w7' ⟨rfl, rfl⟩
            go_wp2_with fail
            go_roundw
            case rel => exact ⟨k + 1, S', O, by omega, by go_num, OI.out, FS.out, FO.out, HM1.out, HO1.out, HB1.out⟩
            case measure => simp [intOf]; omega
        | false =>
          have S0 := Lib.hid hs0
          have cp : (p = Q ∧ (p == Q) = true) ∨ (p ≠ Q ∧ (p == Q) = false) := by
            by_cases h : p = Q
            · left; subst h; simp
            · right; exact ⟨h, by simpa using h⟩
          rcases cp with ⟨rfl, cp⟩ | ⟨hpq, cp⟩
          · have how := HOW.out hs0
            have FO := Lib.hid (HF2.out.ev p rk)
            have HE2 := Lib.hid (fun W hh => event_gen h O p rk k (.int .u8 (rt : Int)) (.int .u32 (us : Int)) (.int .u32 (pc : Int)) W hh HF2.out hrk (by omega))
            rw [← HRES.out] at how
            obtain ⟨res2, hres2⟩ : ∃ res2, res2 = O.ev p rk := ⟨_, rfl⟩
            rw [← hres2] at how FO HE2
            obtain ⟨act2, er2, O'⟩ := res2
            obtain ⟨e1, e2, e3⟩ := how
            simp only at e1 e2
            subst e1 e2
            have OI : Hid (OInv p len S' O') := e3
            have RS : Hid (O'.rst p = S'.rst p) := OI.out.rst.symm
            have RR : Hid (S'.safe = false → O'.runs p = S'.runs p) := fun hs => (OI.out.runs hs).symm
            clear e3 hres2 HRES HSF HOW HOT hs0
            cases hr0 : S.runs p with
            | true =>
              have R0 := Lib.hid hr0
              clear hr0 HRN
              cases hs1 : S'.safe with
              | true =>
                have S1 := Lib.hid hs1
                clear hs1 RR
                go_wp2_with fail
                refine (runs_is g S p true _ (HM.out.alloc _) HF.out.n8 R0.out).mono ?_
                rintro e w4 ⟨rfl, rfl⟩
                go_wp2_with fail
                refine (safe_is g S false _ (HM.out.alloc _) S0.out).mono ?_
                rintro e w4 ⟨rfl, rfl⟩
                go_wp2_with fail
                refine (HE.out _ (HM.out.alloc _)).mono ?_
                rintro e w5 ⟨rfl, hM1, hG1⟩
                have HM1 : Hid (MonAt w5 g S') := hM1
                have HO1 : Hid (MonAt w5 h O) := (HO.out.alloc _).other hG1 (by have := HNE.out; omega)
                have HB1 : Hid (Below w.heap.size w w5) := (HB.out.alloc HB.out.size _).grown hG1 (by have := HB.out.size; simp; omega) (by intro k hk; simp at hk; omega)
                have HX : Hid (w5.heap[wr.heap.size]? = some (.cells #[.int .i64 0, .int .i64 p, .int .u8 (rk : Int), .int .u8 (rt : Int), .int .u32 (us : Int), .int .u32 (pc : Int)] 39 (0, 0))) := (hG1.block _ (by simp) (by have := heap_lt HM.out; intro he; simp at he; omega)).trans (heap_alloc_new _ _)
                have y1 : w5.cell? ⟨wr.heap.size, 1, none⟩ = some (.int .i64 p) := cell_row HX.out rfl
                have y2 : w5.cell? ⟨wr.heap.size, 2, none⟩ = some (.int .u8 (rk : Int)) := cell_row HX.out rfl
                have y3 : w5.cell? ⟨wr.heap.size, 3, none⟩ = some (.int .u8 (rt : Int)) := cell_row HX.out rfl
                have y4 : w5.cell? ⟨wr.heap.size, 4, none⟩ = some (.int .u32 (us : Int)) := cell_row HX.out rfl
                have y5 : w5.cell? ⟨wr.heap.size, 5, none⟩ = some (.int .u32 (pc : Int)) := cell_row HX.out rfl
                clear hM1 hG1
                go_wp2_with fail
                refine (HE2.out _ HO1.out).mono ?_
                rintro e w6 ⟨rfl, hM2, hG2⟩
                have HO2 : Hid (MonAt w6 h O') := hM2
                have HM2 : Hid (MonAt w6 g S') := HM1.out.other hG2 (by have := HNE.out; omega)
                have HB2 : Hid (Below w.heap.size w w6) := HB1.out.grown hG2 HB1.out.size (by intro k hk; simp at hk; have := HNE.out; omega)
                clear hM2 hG2
                go_wp2_with fail
                refine (safe_is g S' true _ HM2.out S1.out).mono ?_
                rintro e w7' ⟨rfl, rfl⟩
                go_wp2_with fail
                refine (restarts_any g S' p _ HM2.out FS.out.n8).mono ?_
                rintro e w7' ⟨rfl, rfl⟩
                go_wp2_with fail
                refine (restarts_is h O' p (S'.rst p) _ HO2.out FO.out.n8 RS.out).mono ?_
                rintro e w7' ⟨rfl, rfl⟩
                go_wp2_with fail
                go_roundw
                case rel => exact ⟨k + 1, S', O', by omega, by go_num, OI.out, FS.out, FO.out, HM2.out, HO2.out, HB2.out⟩
                case measure => simp [intOf]; omega
              | false =>
                have S1 := Lib.hid hs1
                clear hs1
                go_wp2_with fail
                refine (runs_is g S p true _ (HM.out.alloc _) HF.out.n8 R0.out).mono ?_
                rintro e w4 ⟨rfl, rfl⟩
                go_wp2_with fail
                refine (safe_is g S false _ (HM.out.alloc _) S0.out).mono ?_
                rintro e w4 ⟨rfl, rfl⟩
                go_wp2_with fail
                refine (HE.out _ (HM.out.alloc _)).mono ?_
                rintro e w5 ⟨rfl, hM1, hG1⟩
                have HM1 : Hid (MonAt w5 g S') := hM1
                have HO1 : Hid (MonAt w5 h O) := (HO.out.alloc _).other hG1 (by have := HNE.out; omega)
                have HB1 : Hid (Below w.heap.size w w5) := (HB.out.alloc HB.out.size _).grown hG1 (by have := HB.out.size; simp; omega) (by intro k hk; simp at hk; omega)
                have HX : Hid (w5.heap[wr.heap.size]? = some (.cells #[.int .i64 0, .int .i64 p, .int .u8 (rk : Int), .int .u8 (rt : Int), .int .u32 (us : Int), .int .u32 (pc : Int)] 39 (0, 0))) := (hG1.block _ (by simp) (by have := heap_lt HM.out; intro he; simp at he; omega)).trans (heap_alloc_new _ _)
                have y1 : w5.cell? ⟨wr.heap.size, 1, none⟩ = some (.int .i64 p) := cell_row HX.out rfl
                have y2 : w5.cell? ⟨wr.heap.size, 2, none⟩ = some (.int .u8 (rk : Int)) := cell_row HX.out rfl
                have y3 : w5.cell? ⟨wr.heap.size, 3, none⟩ = some (.int .u8 (rt : Int)) := cell_row HX.out rfl
                have y4 : w5.cell? ⟨wr.heap.size, 4, none⟩ = some (.int .u32 (us : Int)) := cell_row HX.out rfl
                have y5 : w5.cell? ⟨wr.heap.size, 5, none⟩ = some (.int .u32 (pc : Int)) := cell_row HX.out rfl
                clear hM1 hG1
                go_wp2_with fail
                refine (HE2.out _ HO1.out).mono ?_
                rintro e w6 ⟨rfl, hM2, hG2⟩
                have HO2 : Hid (MonAt w6 h O') := hM2
                have HM2 : Hid (MonAt w6 g S') := HM1.out.other hG2 (by have := HNE.out; omega)
                have HB2 : Hid (Below w.heap.size w w6) := HB1.out.grown hG2 HB1.out.size (by intro k hk; simp at hk; have := HNE.out; omega)
                clear hM2 hG2
                go_wp2_with fail
                refine (safe_is g S' false _ HM2.out S1.out).mono ?_
                rintro e w7' ⟨rfl, rfl⟩
                go_wp2_with fail
                refine (runs_any g S' p _ HM2.out FS.out.n8).mono ?_
                rintro e w7' ⟨rfl, rfl⟩
                go_wp2_with fail
                refine (runs_is h O' p (S'.runs p) _ HO2.out FO.out.n8 (RR.out S1.out)).mono ?_
                rintro e w7' ⟨rfl, rfl⟩
                go_wp2_with fail
                refine (restarts_any g S' p _ HM2.out FS.out.n8).mono ?_
                rintro e w7' ⟨rfl, rfl⟩
                go_wp2_with fail
                refine (restarts_is h O' p (S'.rst p) _ HO2.out FO.out.n8 RS.out).mono ?_
                rintro e w7' ⟨rfl, rfl⟩
                go_wp2_with fail
                go_roundw
                case rel => exact ⟨k + 1, S', O', by omega, by go_num, OI.out, FS.out, FO.out, HM2.out, HO2.out, HB2.out⟩
                case measure => simp [intOf]; omega
            | false =>
              have R0 := Lib.hid hr0
              have R1 : Hid (S'.runs p = false) := HRN.out hr0
              clear hr0 HRN
              cases hs1 : S'.safe with
              | true =>
                have S1 := Lib.hid hs1
                clear hs1 RR
                go_wp2_with fail
                refine (runs_is g S p false _ (HM.out.alloc _) HF.out.n8 R0.out).mono ?_
                rintro e w4 ⟨rfl, rfl⟩
                go_wp2_with fail
                refine (safe_is g S false _ (HM.out.alloc _) S0.out).mono ?_
                rintro e w4 ⟨rfl, rfl⟩
                go_wp2_with fail
                refine (HE.out _ (HM.out.alloc _)).mono ?_
                rintro e w5 ⟨rfl, hM1, hG1⟩
                have HM1 : Hid (MonAt w5 g S') := hM1
                have HO1 : Hid (MonAt w5 h O) := (HO.out.alloc _).other hG1 (by have := HNE.out; omega)
                have HB1 : Hid (Below w.heap.size w w5) := (HB.out.alloc HB.out.size _).grown hG1 (by have := HB.out.size; simp; omega) (by intro k hk; simp at hk; omega)
                have HX : Hid (w5.heap[wr.heap.size]? = some (.cells #[.int .i64 0, .int .i64 p, .int .u8 (rk : Int), .int .u8 (rt : Int), .int .u32 (us : Int), .int .u32 (pc : Int)] 39 (0, 0))) := (hG1.block _ (by simp) (by have := heap_lt HM.out; intro he; simp at he; omega)).trans (heap_alloc_new _ _)
                have y1 : w5.cell? ⟨wr.heap.size, 1, none⟩ = some (.int .i64 p) := cell_row HX.out rfl
                have y2 : w5.cell? ⟨wr.heap.size, 2, none⟩ = some (.int .u8 (rk : Int)) := cell_row HX.out rfl
                have y3 : w5.cell? ⟨wr.heap.size, 3, none⟩ = some (.int .u8 (rt : Int)) := cell_row HX.out rfl
                have y4 : w5.cell? ⟨wr.heap.size, 4, none⟩ = some (.int .u32 (us : Int)) := cell_row HX.out rfl
                have y5 : w5.cell? ⟨wr.heap.size, 5, none⟩ = some (.int .u32 (pc : Int)) := cell_row HX.out rfl
                clear hM1 hG1
                go_wp2_with fail
                refine (runs_is g S' p false _ HM1.out FS.out.n8 R1.out).mono ?_
                rintro e w5' ⟨rfl, rfl⟩
                go_wp2_with fail
                refine (HE2.out _ HO1.out).mono ?_
                rintro e w6 ⟨rfl, hM2, hG2⟩
                have HO2 : Hid (MonAt w6 h O') := hM2
                have HM2 : Hid (MonAt w6 g S') := HM1.out.other hG2 (by have := HNE.out; omega)
                have HB2 : Hid (Below w.heap.size w w6) := HB1.out.grown hG2 HB1.out.size (by intro k hk; simp at hk; have := HNE.out; omega)
                clear hM2 hG2
                go_wp2_with fail
                refine (safe_is g S' true _ HM2.out S1.out).mono ?_
                rintro e w7' ⟨rfl, rfl⟩
                go_wp2_with fail
                refine (restarts_any g S' p _ HM2.out FS.out.n8).mono ?_
                rintro e w7' ⟨rfl, rfl⟩
                go_wp2_with fail
                refine (restarts_is h O' p (S'.rst p) _ HO2.out FO.out.n8 RS.out).mono ?_
                rintro e w7' ⟨rfl, rfl⟩
                go_wp2_with fail
                go_roundw
                case rel => exact ⟨k + 1, S', O', by omega, by go_num, OI.out, FS.out, FO.out, HM2.out, HO2.out, HB2.out⟩
                case measure => simp [intOf]; omega
              | false =>
                have S1 := Lib.hid hs1
                clear hs1
                go_wp2_with fail
                refine (runs_is g S p false _ (HM.out.alloc _) HF.out.n8 R0.out).mono ?_
                rintro e w4 ⟨rfl, rfl⟩
                go_wp2_with fail
                refine (safe_is g S false _ (HM.out.alloc _) S0.out).mono ?_
                rintro e w4 ⟨rfl, rfl⟩
                go_wp2_with fail
                refine (HE.out _ (HM.out.alloc _)).mono ?_
                rintro e w5 ⟨rfl, hM1, hG1⟩
                have HM1 : Hid (MonAt w5 g S') := hM1
                have HO1 : Hid (MonAt w5 h O) := (HO.out.alloc _).other hG1 (by have := HNE.out; omega)
                have HB1 : Hid (Below w.heap.size w w5) := (HB.out.alloc HB.out.size _).grown hG1 (by have := HB.out.size; simp; omega) (by intro k hk; simp at hk; omega)
                have HX : Hid (w5.heap[wr.heap.size]? = some (.cells #[.int .i64 0, .int .i64 p, .int .u8 (rk : Int), .int .u8 (rt : Int), .int .u32 (us : Int), .int .u32 (pc : Int)] 39 (0, 0))) := (hG1.block _ (by simp) (by have := heap_lt HM.out; intro he; simp at he; omega)).trans (heap_alloc_new _ _)
                have y1 : w5.cell? ⟨wr.heap.size, 1, none⟩ = some (.int .i64 p) := cell_row HX.out rfl
                have y2 : w5.cell? ⟨wr.heap.size, 2, none⟩ = some (.int .u8 (rk : Int)) := cell_row HX.out rfl
                have y3 : w5.cell? ⟨wr.heap.size, 3, none⟩ = some (.int .u8 (rt : Int)) := cell_row HX.out rfl
                have y4 : w5.cell? ⟨wr.heap.size, 4, none⟩ = some (.int .u32 (us : Int)) := cell_row HX.out rfl
                have y5 : w5.cell? ⟨wr.heap.size, 5, none⟩ = some (.int .u32 (pc : Int)) := cell_row HX.out rfl
                clear hM1 hG1
                go_wp2_with fail
                refine (runs_is g S' p false _ HM1.out FS.out.n8 R1.out).mono ?_
                rintro e w5' ⟨rfl, rfl⟩
                go_wp2_with fail
                refine (HE2.out _ HO1.out).mono ?_
                rintro e w6 ⟨rfl, hM2, hG2⟩
                have HO2 : Hid (MonAt w6 h O') := hM2
                have HM2 : Hid (MonAt w6 g S') := HM1.out.other hG2 (by have := HNE.out; omega)
                have HB2 : Hid (Below w.heap.size w w6) := HB1.out.grown hG2 HB1.out.size (by intro k hk; simp at hk; have := HNE.out; omega)
                clear hM2 hG2
                go_wp2_with fail
                refine (safe_is g S' false _ HM2.out S1.out).mono ?_
                rintro e w7' ⟨rfl, rfl⟩
                go_wp2_with fail
                refine (runs_any g S' p _ HM2.out FS.out.n8).mono ?_
                rintro e w7' ⟨rfl, rfl⟩
                go_wp2_with fail
                refine (runs_is h O' p (S'.runs p) _ HO2.out FO.out.n8 (RR.out S1.out)).mono ?_
                rintro e w7' ⟨rfl, rfl⟩
                go_wp2_with fail
                refine (restarts_any g S' p _ HM2.out FS.out.n8).mono ?_
                rintro e w7' ⟨rfl, rfl⟩
                go_wp2_with fail
                refine (restarts_is h O' p (S'.rst p) _ HO2.out FO.out.n8 RS.out).mono ?_
                rintro e w7' ⟨rfl, rfl⟩
                go_wp2_with fail
                go_roundw
                case rel => exact ⟨k + 1, S', O', by omega, by go_num, OI.out, FS.out, FO.out, HM2.out, HO2.out, HB2.out⟩
                case measure => simp [intOf]; omega
          · have OI : Hid (OInv Q len S' O) := HOT.out (.inl hpq)
            have RS : Hid (O.rst Q = S'.rst Q) := OI.out.rst.symm
            have FO : Hid (Fits O (k + 1)) := HF2.out.more
            have RR : Hid (S'.safe = false → O.runs Q = S'.runs Q) := fun hs => (OI.out.runs hs).symm
            clear HRES HSF HOW HOT hs0 hpq
            cases hr0 : S.runs Q with
            | true =>
              have R0 := Lib.hid hr0
              clear hr0 HRN
              cases hs1 : S'.safe with
              | true =>
                have S1 := Lib.hid hs1
                clear hs1 RR
                go_wp2_with fail
                refine (runs_is g S Q true _ (HM.out.alloc _) HF.out.n8 R0.out).mono ?_
                rintro e w4 ⟨rfl, rfl⟩
                go_wp2_with fail
                refine (safe_is g S false _ (HM.out.alloc _) S0.out).mono ?_
                rintro e w4 ⟨rfl, rfl⟩
                go_wp2_with fail
                refine (HE.out _ (HM.out.alloc _)).mono ?_
                rintro e w5 ⟨rfl, hM1, hG1⟩
                have HM1 : Hid (MonAt w5 g S') := hM1
                have HO1 : Hid (MonAt w5 h O) := (HO.out.alloc _).other hG1 (by have := HNE.out; omega)
                have HB1 : Hid (Below w.heap.size w w5) := (HB.out.alloc HB.out.size _).grown hG1 (by have := HB.out.size; simp; omega) (by intro k hk; simp at hk; omega)
                have HX : Hid (w5.heap[wr.heap.size]? = some (.cells #[.int .i64 0, .int .i64 p, .int .u8 (rk : Int), .int .u8 (rt : Int), .int .u32 (us : Int), .int .u32 (pc : Int)] 39 (0, 0))) := (hG1.block _ (by simp) (by have := heap_lt HM.out; intro he; simp at he; omega)).trans (heap_alloc_new _ _)
                have y1 : w5.cell? ⟨wr.heap.size, 1, none⟩ = some (.int .i64 p) := cell_row HX.out rfl
                have y2 : w5.cell? ⟨wr.heap.size, 2, none⟩ = some (.int .u8 (rk : Int)) := cell_row HX.out rfl
                have y3 : w5.cell? ⟨wr.heap.size, 3, none⟩ = some (.int .u8 (rt : Int)) := cell_row HX.out rfl
                have y4 : w5.cell? ⟨wr.heap.size, 4, none⟩ = some (.int .u32 (us : Int)) := cell_row HX.out rfl
                have y5 : w5.cell? ⟨wr.heap.size, 5, none⟩ = some (.int .u32 (pc : Int)) := cell_row HX.out rfl
                clear hM1 hG1
                go_wp2_with fail
                refine (safe_is g S' true _ HM1.out S1.out).mono ?_
                rintro e w7' ⟨rfl, rfl⟩
                go_wp2_with fail
                refine (restarts_any g S' Q _ HM1.out FS.out.n8).mono ?_
                rintro e w7' ⟨rfl, rfl⟩
                go_wp2_with fail
                refine (restarts_is h O Q (S'.rst Q) _ HO1.out FO.out.n8 RS.out).mono ?_
                rintro e w7' ⟨rfl, rfl⟩
                go_wp2_with fail
                go_roundw
                case rel => exact ⟨k + 1, S', O, by omega, by go_num, OI.out, FS.out, FO.out, HM1.out, HO1.out, HB1.out⟩
                case measure => simp [intOf]; omega
              | false =>
                have S1 := Lib.hid hs1
                clear hs1
                go_wp2_with fail
                refine (runs_is g S Q true _ (HM.out.alloc _) HF.out.n8 R0.out).mono ?_
                rintro e w4 ⟨rfl, rfl⟩
                go_wp2_with fail
                refine (safe_is g S false _ (HM.out.alloc _) S0.out).mono ?_
                rintro e w4 ⟨rfl, rfl⟩
                go_wp2_with fail
                refine (HE.out _ (HM.out.alloc _)).mono ?_
                rintro e w5 ⟨rfl, hM1, hG1⟩
                have HM1 : Hid (MonAt w5 g S') := hM1
                have HO1 : Hid (MonAt w5 h O) := (HO.out.alloc _).other hG1 (by have := HNE.out; omega)
                have HB1 : Hid (Below w.heap.size w w5) := (HB.out.alloc HB.out.size _).grown hG1 (by have := HB.out.size; simp; omega) (by intro k hk; simp at hk; omega)
                have HX : Hid (w5.heap[wr.heap.size]? = some (.cells #[.int .i64 0, .int .i64 p, .int .u8 (rk : Int), .int .u8 (rt : Int), .int .u32 (us : Int), .int .u32 (pc : Int)] 39 (0, 0))) := (hG1.block _ (by simp) (by have := heap_lt HM.out; intro he; simp at he; omega)).trans (heap_alloc_new _ _)
                have y1 : w5.cell? ⟨wr.heap.size, 1, none⟩ = some (.int .i64 p) := cell_row HX.out rfl
                have y2 : w5.cell? ⟨wr.heap.size, 2, none⟩ = some (.int .u8 (rk : Int)) := cell_row HX.out rfl
                have y3 : w5.cell? ⟨wr.heap.size, 3, none⟩ = some (.int .u8 (rt : Int)) := cell_row HX.out rfl
                have y4 : w5.cell? ⟨wr.heap.size, 4, none⟩ = some (.int .u32 (us : Int)) := cell_row HX.out rfl
                have y5 : w5.cell? ⟨wr.heap.size, 5, none⟩ = some (.int .u32 (pc : Int)) := cell_row HX.out rfl
                clear hM1 hG1
                go_wp2_with fail
                refine (safe_is g S' false _ HM1.out S1.out).mono ?_
                rintro e w7' ⟨rfl, rfl⟩
                go_wp2_with fail
                refine (runs_any g S' Q _ HM1.out FS.out.n8).mono ?_
                rintro e w7' ⟨rfl, rfl⟩
                go_wp2_with fail
                refine (runs_is h O Q (S'.runs Q) _ HO1.out FO.out.n8 (RR.out S1.out)).mono ?_
                rintro e w7' ⟨rfl, rfl⟩
                go_wp2_with fail
                refine (restarts_any g S' Q _ HM1.out FS.out.n8).mono ?_
                rintro e w7' ⟨rfl, rfl⟩
                go_wp2_with fail
                refine (restarts_is h O Q (S'.rst Q) _ HO1.out FO.out.n8 RS.out).mono ?_
                rintro e w7' ⟨rfl, rfl⟩
                go_wp2_with fail
                go_roundw
                case rel => exact ⟨k + 1, S', O, by omega, by go_num, OI.out, FS.out, FO.out, HM1.out, HO1.out, HB1.out⟩
                case measure => simp [intOf]; omega
            | false =>
              have R0 := Lib.hid hr0
              have R1 : Hid (S'.runs Q = false) := HRN.out hr0
              clear hr0 HRN
              cases hs1 : S'.safe with
              | true =>
                have S1 := Lib.hid hs1
                clear hs1 RR
                go_wp2_with fail
                refine (runs_is g S Q false _ (HM.out.alloc _) HF.out.n8 R0.out).mono ?_
                rintro e w4 ⟨rfl, rfl⟩
                go_wp2_with fail
                refine (safe_is g S false _ (HM.out.alloc _) S0.out).mono ?_
                rintro e w4 ⟨rfl, rfl⟩
                go_wp2_with fail
                refine (HE.out _ (HM.out.alloc _)).mono ?_
                rintro e w5 ⟨rfl, hM1, hG1⟩
                have HM1 : Hid (MonAt w5 g S') := hM1
                have HO1 : Hid (MonAt w5 h O) := (HO.out.alloc _).other hG1 (by have := HNE.out; omega)
                have HB1 : Hid (Below w.heap.size w w5) := (HB.out.alloc HB.out.size _).grown hG1 (by have := HB.out.size; simp; omega) (by intro k hk; simp at hk; omega)
                have HX : Hid (w5.heap[wr.heap.size]? = some (.cells #[.int .i64 0, .int .i64 p, .int .u8 (rk : Int), .int .u8 (rt : Int), .int .u32 (us : Int), .int .u32 (pc : Int)] 39 (0, 0))) := (hG1.block _ (by simp) (by have := heap_lt HM.out; intro he; simp at he; omega)).trans (heap_alloc_new _ _)
                have y1 : w5.cell? ⟨wr.heap.size, 1, none⟩ = some (.int .i64 p) := cell_row HX.out rfl
                have y2 : w5.cell? ⟨wr.heap.size, 2, none⟩ = some (.int .u8 (rk : Int)) := cell_row HX.out rfl
                have y3 : w5.cell? ⟨wr.heap.size, 3, none⟩ = some (.int .u8 (rt : Int)) := cell_row HX.out rfl
                have y4 : w5.cell? ⟨wr.heap.size, 4, none⟩ = some (.int .u32 (us : Int)) := cell_row HX.out rfl
                have y5 : w5.cell? ⟨wr.heap.size, 5, none⟩ = some (.int .u32 (pc : Int)) := cell_row HX.out rfl
                clear hM1 hG1
                go_wp2_with fail
                refine (runs_is g S' Q false _ HM1.out FS.out.n8 R1.out).mono ?_
                rintro e w5' ⟨rfl, rfl⟩
                go_wp2_with fail
                refine (safe_is g S' true _ HM1.out S1.out).mono ?_
                rintro e w7' ⟨rfl, rfl⟩
                go_wp2_with fail
                refine (restarts_any g S' Q _ HM1.out FS.out.n8).mono ?_
                rintro e w7' ⟨rfl, rfl⟩
                go_wp2_with fail
                refine (restarts_is h O Q (S'.rst Q) _ HO1.out FO.out.n8 RS.out).mono ?_
                rintro e w7' ⟨rfl, rfl⟩
                go_wp2_with fail
                go_roundw
                case rel => exact ⟨k + 1, S', O, by omega, by go_num, OI.out, FS.out, FO.out, HM1.out, HO1.out, HB1.out⟩
                case measure => simp [intOf]; omega
              | false =>
                have S1 := Lib.hid hs1
                clear hs1
                go_wp2_with fail
                refine (runs_is g S Q false _ (HM.out.alloc _) HF.out.n8 R0.out).mono ?_
                rintro e w4 ⟨rfl, rfl⟩
                go_wp2_with fail
                refine (safe_is g S false _ (HM.out.alloc _) S0.out).mono ?_
                rintro e w4 ⟨rfl, rfl⟩
                go_wp2_with fail
                refine (HE.out _ (HM.out.alloc _)).mono ?_
                rintro e w5 ⟨rfl, hM1, hG1⟩
                have HM1 : Hid (MonAt w5 g S') := hM1
                have HO1 : Hid (MonAt w5 h O) := (HO.out.alloc _).other hG1 (by have := HNE.out; omega)
                have HB1 : Hid (Below w.heap.size w w5) := (HB.out.alloc HB.out.size _).grown hG1 (by have := HB.out.size; simp; omega) (by intro k hk; simp at hk; omega)
                have HX : Hid (w5.heap[wr.heap.size]? = some (.cells #[.int .i64 0, .int .i64 p, .int .u8 (rk : Int), .int .u8 (rt : Int), .int .u32 (us : Int), .int .u32 (pc : Int)] 39 (0, 0))) := (hG1.block _ (by simp) (by have := heap_lt HM.out; intro he; simp at he; omega)).trans (heap_alloc_new _ _)
                have y1 : w5.cell? ⟨wr.heap.size, 1, none⟩ = some (.int .i64 p) := cell_row HX.out rfl
                have y2 : w5.cell? ⟨wr.heap.size, 2, none⟩ = some (.int .u8 (rk : Int)) := cell_row HX.out rfl
                have y3 : w5.cell? ⟨wr.heap.size, 3, none⟩ = some (.int .u8 (rt : Int)) := cell_row HX.out rfl
                have y4 : w5.cell? ⟨wr.heap.size, 4, none⟩ = some (.int .u32 (us : Int)) := cell_row HX.out rfl
                have y5 : w5.cell? ⟨wr.heap.size, 5, none⟩ = some (.int .u32 (pc : Int)) := cell_row HX.out rfl
                clear hM1 hG1
                go_wp2_with fail
                refine (runs_is g S' Q false _ HM1.out FS.out.n8 R1.out).mono ?_
                rintro e w5' ⟨rfl, rfl⟩
                go_wp2_with fail
                refine (safe_is g S' false _ HM1.out S1.out).mono ?_
                rintro e w7' ⟨rfl, rfl⟩
                go_wp2_with fail
                refine (runs_any g S' Q _ HM1.out FS.out.n8).mono ?_
                rintro e w7' ⟨rfl, rfl⟩
                go_wp2_with fail
                refine (runs_is h O Q (S'.runs Q) _ HO1.out FO.out.n8 (RR.out S1.out)).mono ?_
                rintro e w7' ⟨rfl, rfl⟩
                go_wp2_with fail
                refine (restarts_any g S' Q _ HM1.out FS.out.n8).mono ?_
                rintro e w7' ⟨rfl, rfl⟩
                go_wp2_with fail
                refine (restarts_is h O Q (S'.rst Q) _ HO1.out FO.out.n8 RS.out).mono ?_
                rintro e w7' ⟨rfl, rfl⟩
                go_wp2_with fail
                go_roundw
                case rel => exact ⟨k + 1, S', O, by omega, by go_num, OI.out, FS.out, FO.out, HM1.out, HO1.out, HB1.out⟩
                case measure => simp [intOf]; omega
      · have tk : (kd == 0) = false := by simp; omega
        have tk2 : (kd != 0) = true := by simp; omega
        clear hkd
        go_wp2_with fail
        go_roundw
        case rel => exact ⟨k + 1, S, O, by omega, by go_num, HI.out, HF.out.more, HF2.out.more, HM.out.alloc _, HO.out.alloc _, HB.out.alloc HB.out.size _⟩
        case measure => simp [intOf]; omega
    · obtain rfl : n = k := by omega
      go_wp2_with fail
      go_ret
      exact ⟨rfl, HB.out⟩
end Go.Proofs.Ytfbbmapihgepmaa
