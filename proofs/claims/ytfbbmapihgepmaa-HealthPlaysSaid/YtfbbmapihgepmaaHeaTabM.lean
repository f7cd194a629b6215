/- The walk of HealthTable: without a row that makes the system safe it never is; a partition with a limit is restarted at most so often. -/
import Derived.Test.YtfbbmapihgepmaaHeaTabW
namespace Go.Proofs.Ytfbbmapihgepmaa
open Go.RowKit
set_option linter.unusedVariables false
theorem below_drewN {B : Nat} {a w : World} {n : Nat} (h : Below B a w) : Below B a (w.drewN n) := ⟨h.os, h.tape, h.output, h.size, h.block⟩
set_option maxHeartbeats 8000000 in
set_option maxRecDepth 100000 in
theorem table_good (a : Option Addr) (len cap : Nat) (s : Option Addr) (n scap : Nat) (D : Nat → HDef) (L : Nat → DoRec) (w : World) (h8 : len ≤ 8) (hn : n ≤ 500) (hD : DefsAt w a len D) (hL : DosAt w s n L) (hc : checkV D len = 0) :
    Calls Try.prog 5 #[.slice a len cap, .slice s n scap] w fun e w' => e = .returned (.bool true) ∧ Below w.heap.size w w' := by
  have HD := Lib.hid hD; have HL := Lib.hid hL; have HCV := Lib.hid hc
  clear hD hL hc
  have t1 : decide (100 < (len : Int)) = false := by simp; omega
  have t2 : decide (500 < (n : Int)) = false := by simp; omega
  go_enter Try.func5, Try.ntmps5
  go_wp2_with fail
  refine (known_any _).mono ?_
  rintro e w1 ⟨rfl, hb1⟩
  have B1 := Lib.hid hb1; clear hb1
  go_wp2_with fail
  refine (new_good a len cap D _ h8 (HD.out.below B1.out) HCV.out).mono ?_
  rintro e w2 ⟨g, rfl, h1, h2, hM, hB⟩
  have B2 : Hid (Below w.heap.size w w2) := B1.out.trans (hB.mono B1.out.size)
  have M2 := Lib.hid hM
  have hg : w.heap.size ≤ g := Nat.le_trans B1.out.size h1
  clear h1 h2 hM hB
  go_wp2_with fail
  clear t1 t2
  go_loopw [36, 7] (fun i m wr => ∃ k : Nat, k ≤ len ∧ i = .int .i64 k ∧ m = .bool (mayB D k) ∧ MonAt wr g (newMon D len len) ∧ Below w.heap.size w wr) (fun i _ _ => len - (intOf i).toNat)
  case atStart => exact ⟨0, Nat.zero_le _, rfl, rfl, M2.out, B2.out⟩
  case round =>
    obtain ⟨k, hk, rfl, rfl, hM, hB⟩ := hrel
    have HM := Lib.hid hM; have HB := Lib.hid hB
    clear hM hB M2 B2
    by_cases hlt : k < len
    · obtain ⟨b, off, rfl, hbl, hcells⟩ := HD.out.1.at (by omega)
      have c0 : wr.cell? ⟨b, off + k * 3, none⟩ = some (.int .u8 ((D k).trap : Int)) := by rw [HB.out.cell hbl]; exact hcells k hlt 0 (by omega)
      have c1 : wr.cell? ⟨b, off + k * 3 + 1, none⟩ = some (.int .u8 ((D k).over : Int)) := by rw [HB.out.cell hbl]; exact hcells k hlt 1 (by omega)
      have c2 : wr.cell? ⟨b, off + k * 3 + 2, none⟩ = some (.int .u8 ((D k).lim : Int)) := by rw [HB.out.cell hbl]; exact hcells k hlt 2 (by omega)
      clear hcells
      have key : ∃ b1 b2 b3 : Bool, mayB D k = b1 ∧ (((D k).trap : Int) == 3) = b2 ∧ (((D k).over : Int) == 3) = b3 ∧ mayB D (k + 1) = (b1 || b2 || b3) := by
        refine ⟨_, _, _, rfl, rfl, rfl, ?_⟩
        show (mayB D k || decide ((D k).trap = 3) || decide ((D k).over = 3)) = _
        congr 1
        · congr 1
          rw [Bool.eq_iff_iff]; simp; omega
        · rw [Bool.eq_iff_iff]; simp; omega
      obtain ⟨b1, b2, b3, k1, k2, k3, k4⟩ := key
      rw [k1]
      have K4 := Lib.hid k4
      clear k1 k4
      cases b1 <;> cases b2 <;> cases b3
      all_goals
        go_wp2_with fail
        go_roundw
        case rel => exact ⟨k + 1, by omega, by go_num, by rw [K4.out]; rfl, HM.out.alloc _, HB.out.alloc HB.out.size _⟩
        case measure => simp [intOf]; omega
    · obtain rfl : len = k := by omega
      obtain ⟨mb, hmb⟩ : ∃ mb, mb = mayB D len := ⟨_, rfl⟩
      have HMB := Lib.hid hmb
      rw [← hmb]
      clear hmb
      cases mb
      all_goals
       go_wp2_with fail
       go_loopw [54] (fun i wr => ∃ k : Nat, ∃ S : HMon, k ≤ n ∧ i = .int .i64 k ∧ TInv D len S ∧ Fits S k ∧ MonAt wr g S ∧ Below w.heap.size w wr) (fun i _ => n - (intOf i).toNat)
       case atStart =>
         refine ⟨0, newMon D len len, Nat.zero_le _, rfl, ⟨rfl, fun i hi => by simp [newMon, hi], fun h => (by cases h), fun i hi _ => by simp [newMon, hi]⟩, ⟨h8, fun i hi => ?_, fun i hi => ?_⟩, HM.out, HB.out⟩
         · have hi' : i < len := hi
           have := HD.out.2 i hi'
           simp [newMon, hi']; exact this
         · have hi' : i < len := hi
           simp [newMon, hi']
       case round =>
         obtain ⟨k, S, hk, rfl, hT, hF, hM, hB⟩ := hrel
         clear HM HB
         have HM := Lib.hid hM; have HB := Lib.hid hB; have HT := Lib.hid hT; have HF := Lib.hid hF
         clear hM hB hT hF
         by_cases hlt : k < n
         · obtain ⟨sb, soff, rfl, hsl, hcells⟩ := HL.out.1.at (by omega)
           obtain ⟨-, ⟨hp0, hp1⟩, hrk⟩ := HL.out.2 k hlt
           have x0 : wr.cell? ⟨sb, soff + k * 6, none⟩ = some (.int .i64 (L k).kind) := by rw [HB.out.cell hsl]; exact hcells k hlt 0 (by omega)
           have x1 : wr.cell? ⟨sb, soff + k * 6 + 1, none⟩ = some (.int .i64 (L k).part) := by rw [HB.out.cell hsl]; exact hcells k hlt 1 (by omega)
           have x2 : wr.cell? ⟨sb, soff + k * 6 + 2, none⟩ = some (.int .u8 ((L k).rk : Int)) := by rw [HB.out.cell hsl]; exact hcells k hlt 2 (by omega)
           have x3 : wr.cell? ⟨sb, soff + k * 6 + 3, none⟩ = some (.int .u8 ((L k).rt : Int)) := by rw [HB.out.cell hsl]; exact hcells k hlt 3 (by omega)
           have x4 : wr.cell? ⟨sb, soff + k * 6 + 4, none⟩ = some (.int .u32 ((L k).used : Int)) := by rw [HB.out.cell hsl]; exact hcells k hlt 4 (by omega)
           have x5 : wr.cell? ⟨sb, soff + k * 6 + 5, none⟩ = some (.int .u32 ((L k).pc : Int)) := by rw [HB.out.cell hsl]; exact hcells k hlt 5 (by omega)
           clear hcells
           generalize (L k).kind = kd at *
           generalize (L k).part = p at *
           generalize (L k).rk = rk at *
           generalize (L k).rt = rt at *
           generalize (L k).used = us at *
           generalize (L k).pc = pc at *
           by_cases hkd : kd = 0
           · subst hkd
             have FI := Lib.hid (HF.out.ev p rk)
             have TI := Lib.hid (HT.out.ev p rk)
             have HE := Lib.hid (fun W h => event_gen g S p rk k (.int .u8 (rt : Int)) (.int .u32 (us : Int)) (.int .u32 (pc : Int)) W h HF.out hrk (by omega))
             have HID := Lib.hid (ev_idle S p rk)
             obtain ⟨res, hres⟩ : ∃ res, res = S.ev p rk := ⟨_, rfl⟩
             rw [← hres] at FI TI HE HID
             obtain ⟨act, er, S'⟩ := res
             clear hres
             have c2 : (er == 0) = false ∨ ((er == 0) = true ∧ ((rk : Int) != 3) = false) ∨ ((er == 0) = true ∧ ((rk : Int) != 3) = true ∧ ((rk : Int) != 4) = false) ∨ ((er == 0) = true ∧ ((rk : Int) != 3) = true ∧ ((rk : Int) != 4) = true ∧ act = 0) := by
               cases he : (er == 0) with
               | false => exact .inl rfl
               | true =>
                 right
                 by_cases h3 : rk = 3
                 · left; subst h3; exact ⟨rfl, rfl⟩
                 · by_cases h4 : rk = 4
                   · right; left; subst h4; exact ⟨rfl, rfl, rfl⟩
                   · right; right; exact ⟨rfl, by simp; omega, by simp; omega, HID.out h3 h4⟩
             have C2 := Lib.hid c2
             clear c2
             go_wp2_with fail
             refine (HE.out _ (HM.out.alloc _)).mono ?_
             rintro e w5 ⟨rfl, hM1, hG1⟩
             have HM1 : Hid (MonAt w5 g S') := hM1
             have HB1 : Hid (Below w.heap.size w w5) := (HB.out.alloc HB.out.size _).grown hG1 (by have := HB.out.size; simp; omega) (by intro k hk; simp at hk; omega)
             have HX : Hid (w5.heap[wr.heap.size]? = some (.cells #[.int .i64 0, .int .i64 p, .int .u8 (rk : Int), .int .u8 (rt : Int), .int .u32 (us : Int), .int .u32 (pc : Int)] 39 (0, 0))) := (hG1.block _ (by simp) (by have := heap_lt HM.out; intro he; simp at he; omega)).trans (heap_alloc_new _ _)
             have y2 : w5.cell? ⟨wr.heap.size, 2, none⟩ = some (.int .u8 (rk : Int)) := cell_row HX.out rfl
             clear hM1 hG1
             rcases C2.out with c2 | ⟨c2, c3⟩ | ⟨c2, c3, c4⟩ | ⟨c2, c3, c4, rfl⟩
             all_goals
               have hsafe : S'.safe = true → mayB D len = true := TI.out.safe
               have HSF : Hid (S'.safe = true → mayB D len = true) := hsafe
               clear hsafe
               go_wp2_with fail
               refine (safe_any g S' _ HM1.out).mono ?_
               rintro e w6 ⟨rfl, rfl⟩
               have HKM : Hid (S'.safe = true → mayB D len = true) := HSF.out
               obtain ⟨sf, hsf⟩ : ∃ sf, sf = S'.safe := ⟨_, rfl⟩
               have HSF2 : Hid (sf = true → mayB D len = true) := by show sf = true → mayB D len = true; rw [hsf]; exact HKM.out
               rw [← hsf]
               clear hsf HKM HSF
               cases sf
               all_goals try (exfalso; have h1 := HSF2.out rfl; have h2 := HMB.out; rw [h1] at h2; cases h2; done)
               all_goals
                 go_wp2_with fail
                 go_loopw [96] (fun i wr => ∃ j : Nat, j ≤ len ∧ i = .int .i64 j ∧ MonAt wr g S' ∧ Below w.heap.size w wr) (fun i _ => len - (intOf i).toNat)
                 case atStart => exact ⟨0, Nat.zero_le _, rfl, HM1.out, HB1.out⟩
                 case round =>
                   obtain ⟨j, hj, rfl, hM, hB⟩ := hrel
                   have HM2 := Lib.hid hM; have HB2 := Lib.hid hB
                   clear hM hB
                   by_cases hjl : j < len
                   · obtain ⟨b, off, rfl, hbl, hcells⟩ := HD.out.1.at (by omega)
                     have d3 := (HD.out.2 j hjl).2.2
                     have c0 : wr.cell? ⟨b, off + j * 3, none⟩ = some (.int .u8 ((D j).trap : Int)) := by rw [HB2.out.cell hbl]; exact hcells j hjl 0 (by omega)
                     have c1 : wr.cell? ⟨b, off + j * 3 + 1, none⟩ = some (.int .u8 ((D j).over : Int)) := by rw [HB2.out.cell hbl]; exact hcells j hjl 1 (by omega)
                     have c2 : wr.cell? ⟨b, off + j * 3 + 2, none⟩ = some (.int .u8 ((D j).lim : Int)) := by rw [HB2.out.cell hbl]; exact hcells j hjl 2 (by omega)
                     clear hcells
                     have hlim := TI.out.lim j hjl
                     have HR := fun w' h => restarts_is g S' (j : Int) (S'.l j).rs w' h FI.out.n8 (by simp [HMon.rst, HMon.there, TI.out.n, hjl])
                     have hrb : (S'.l j).rs < 1000000 := by have := FI.out.rs j (by rw [TI.out.n]; exact hjl); omega
                     have HR := Lib.hid HR
                     generalize (S'.l j).rs = R at *
                     generalize (D j).lim = L at *
                     by_cases hL : 0 < L
                     · have hl2 := hlim hL
                       have t1 : decide (0 < (L : Int)) = true := by simp; omega
                       have t1' : decide (0 < L) = true := by simpa using hL
                       have t2 : decide ((L : Int) < (R : Int)) = false := by simp; omega
                       have t2' : decide (L < R) = false := by simp; omega
                       clear hlim
                       go_wp2_with fail
                       go_quiet ((go_at_call 18; exact Calls.quiet_of_same ((HR.out _ ((HM2.out.alloc _).drewN)).mono fun _ _ ⟨h1, h2⟩ => ⟨h1, h2.symm⟩)))
                       go_wp2_with fail
                       go_roundw
                       case rel => exact ⟨j + 1, by omega, by go_num, (HM2.out.alloc _).drewN, below_drewN (HB2.out.alloc HB2.out.size _)⟩
                       case measure => simp [intOf]; omega
                     · obtain rfl : L = 0 := by omega
                       clear hlim
                       go_wp2_with fail
                       go_quiet (fail)
                       go_wp2_with fail
                       go_roundw
                       case rel => exact ⟨j + 1, by omega, by go_num, (HM2.out.alloc _).drewN, below_drewN (HB2.out.alloc HB2.out.size _)⟩
                       case measure => simp [intOf]; omega
                   · obtain rfl : len = j := by omega
                     go_wp2_with fail
                     go_roundw
                     case rel => exact ⟨k + 1, S', by omega, by go_num, TI.out, FI.out, HM2.out, HB2.out⟩
                     case measure => simp [intOf]; omega
           · have tk : (kd == 0) = false := by simp; omega
             have FI : Hid (Fits S (k + 1)) := ⟨HF.out.n8, HF.out.d, fun i hi => by have := HF.out.rs i hi; omega⟩
             have TI := HT
             have HM1 : Hid (MonAt (wr.alloc (.cells #[.int .i64 kd, .int .i64 p, .int .u8 (rk : Int), .int .u8 (rt : Int), .int .u32 (us : Int), .int .u32 (pc : Int)] 39)) g S) := HM.out.alloc _
             have HB1 : Hid (Below w.heap.size w (wr.alloc (.cells #[.int .i64 kd, .int .i64 p, .int .u8 (rk : Int), .int .u8 (rt : Int), .int .u32 (us : Int), .int .u32 (pc : Int)] 39))) := HB.out.alloc HB.out.size _
             clear hkd
             obtain ⟨S', hSS⟩ : ∃ S', S' = S := ⟨S, rfl⟩
             rw [← hSS] at TI FI HM1
             clear hSS
             have hsafe : S'.safe = true → mayB D len = true := TI.out.safe
             have HSF : Hid (S'.safe = true → mayB D len = true) := hsafe
             clear hsafe
             go_wp2_with fail
             refine (safe_any g S' _ HM1.out).mono ?_
             rintro e w6 ⟨rfl, rfl⟩
             have HKM : Hid (S'.safe = true → mayB D len = true) := HSF.out
             obtain ⟨sf, hsf⟩ : ∃ sf, sf = S'.safe := ⟨_, rfl⟩
             have HSF2 : Hid (sf = true → mayB D len = true) := by show sf = true → mayB D len = true; rw [hsf]; exact HKM.out
             rw [← hsf]
             clear hsf HKM HSF
             cases sf
             all_goals try (exfalso; have h1 := HSF2.out rfl; have h2 := HMB.out; rw [h1] at h2; cases h2; done)
             all_goals
               go_wp2_with fail
               go_loopw [96] (fun i wr => ∃ j : Nat, j ≤ len ∧ i = .int .i64 j ∧ MonAt wr g S' ∧ Below w.heap.size w wr) (fun i _ => len - (intOf i).toNat)
               case atStart => exact ⟨0, Nat.zero_le _, rfl, HM1.out, HB1.out⟩
               case round =>
                 obtain ⟨j, hj, rfl, hM, hB⟩ := hrel
                 have HM2 := Lib.hid hM; have HB2 := Lib.hid hB
                 clear hM hB
                 by_cases hjl : j < len
                 · obtain ⟨b, off, rfl, hbl, hcells⟩ := HD.out.1.at (by omega)
                   have d3 := (HD.out.2 j hjl).2.2
                   have c0 : wr.cell? ⟨b, off + j * 3, none⟩ = some (.int .u8 ((D j).trap : Int)) := by rw [HB2.out.cell hbl]; exact hcells j hjl 0 (by omega)
                   have c1 : wr.cell? ⟨b, off + j * 3 + 1, none⟩ = some (.int .u8 ((D j).over : Int)) := by rw [HB2.out.cell hbl]; exact hcells j hjl 1 (by omega)
                   have c2 : wr.cell? ⟨b, off + j * 3 + 2, none⟩ = some (.int .u8 ((D j).lim : Int)) := by rw [HB2.out.cell hbl]; exact hcells j hjl 2 (by omega)
                   clear hcells
                   have hlim := TI.out.lim j hjl
                   have HR := fun w' h => restarts_is g S' (j : Int) (S'.l j).rs w' h FI.out.n8 (by simp [HMon.rst, HMon.there, TI.out.n, hjl])
                   have hrb : (S'.l j).rs < 1000000 := by have := FI.out.rs j (by rw [TI.out.n]; exact hjl); omega
                   have HR := Lib.hid HR
                   generalize (S'.l j).rs = R at *
                   generalize (D j).lim = L at *
                   by_cases hL : 0 < L
                   · have hl2 := hlim hL
                     have t1 : decide (0 < (L : Int)) = true := by simp; omega
                     have t1' : decide (0 < L) = true := by simpa using hL
                     have t2 : decide ((L : Int) < (R : Int)) = false := by simp; omega
                     have t2' : decide (L < R) = false := by simp; omega
                     clear hlim
                     go_wp2_with fail
                     go_quiet ((go_at_call 18; exact Calls.quiet_of_same ((HR.out _ ((HM2.out.alloc _).drewN)).mono fun _ _ ⟨h1, h2⟩ => ⟨h1, h2.symm⟩)))
                     go_wp2_with fail
                     go_roundw
                     case rel => exact ⟨j + 1, by omega, by go_num, (HM2.out.alloc _).drewN, below_drewN (HB2.out.alloc HB2.out.size _)⟩
                     case measure => simp [intOf]; omega
                   · obtain rfl : L = 0 := by omega
                     clear hlim
                     go_wp2_with fail
                     go_quiet (fail)
                     go_wp2_with fail
                     go_roundw
                     case rel => exact ⟨j + 1, by omega, by go_num, (HM2.out.alloc _).drewN, below_drewN (HB2.out.alloc HB2.out.size _)⟩
                     case measure => simp [intOf]; omega
                 · obtain rfl : len = j := by omega
                   go_wp2_with fail
                   go_roundw
                   case rel => exact ⟨k + 1, S', by omega, by go_num, TI.out, FI.out, HM2.out, HB2.out⟩
                   case measure => simp [intOf]; omega
         · obtain rfl : n = k := by omega
           go_wp2_with fail
           refine (fail_any g S _ HM.out).mono ?_
           rintro e w5 ⟨rfl, hM1, hG1⟩
           have HM1 := Lib.hid hM1
           have HB1 : Hid (Below w.heap.size w w5) := HB.out.grown hG1 HB.out.size (by intro k hk; simp at hk; omega)
           have HN : Hid (S.n ≤ 8) := HF.out.n8
           clear hM1 hG1
           go_wp2_with fail
           go_loopw [119] (fun i wr => ∃ j : Nat, j ≤ len ∧ i = .int .i64 j ∧ MonAt wr g { S with safe := true } ∧ Below w.heap.size w wr) (fun i _ => len - (intOf i).toNat)
           case atStart => exact ⟨0, Nat.zero_le _, rfl, HM1.out, HB1.out⟩
           case round =>
             obtain ⟨j, hj, rfl, hM, hB⟩ := hrel
             have HM2 := Lib.hid hM; have HB2 := Lib.hid hB
             clear hM hB
             by_cases hjl : j < len
             · go_wp2_with fail
               refine (runs_is g { S with safe := true } (j : Int) false _ HM2.out HN.out (by simp [HMon.runs])).mono ?_
               rintro e w6 ⟨rfl, rfl⟩
               go_wp2_with fail
               go_roundw
               case rel => exact ⟨j + 1, by omega, by go_num, HM2.out, HB2.out⟩
               case measure => simp [intOf]; omega
             · obtain rfl : len = j := by omega
               go_wp2_with fail
               refine (safe_any g { S with safe := true } _ HM2.out).mono ?_
               rintro e w6 ⟨rfl, rfl⟩
               go_wp2_with fail
               go_ret
               exact ⟨rfl, HB2.out⟩
end Go.Proofs.Ytfbbmapihgepmaa
