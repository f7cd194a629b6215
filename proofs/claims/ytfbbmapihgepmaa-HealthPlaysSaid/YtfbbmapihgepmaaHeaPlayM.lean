/- The walk of HealthPlays. -/
import Derived.Test.YtfbbmapihgepmaaHeaPlayP
namespace Go.Proofs.Ytfbbmapihgepmaa
open Go.RowKit
set_option linter.unusedVariables false
theorem MonAt.refset {w : World} {g r o : Nat} {v : Value} {S : HMon} (h : MonAt w g S) (hne : g ≠ r) : MonAt (w.setCell ⟨r, o, none⟩ v) g S := by
  unfold MonAt at *
  rw [heap_setCell_other _ _ _ _ hne]; exact h
set_option maxHeartbeats 16000000 in
set_option maxRecDepth 100000 in
theorem plays_good (a : Option Addr) (len cap : Nat) (s : Option Addr) (n scap : Nat) (D : Nat → HDef) (L : Nat → DoRec) (w : World) (h8 : len ≤ 8) (hcap : len ≤ cap) (hn : n ≤ 500) (hD : DefsAt w a len D) (hL : DosAt w s n L) (hc : checkV D len = 0) :
    Calls Try.prog 3 #[.slice a len cap, .slice s n scap] w fun e w' => e = .returned (.bool true) ∧ Below w.heap.size w w' := by
  have HD := Lib.hid hD; have HL := Lib.hid hL; have HCV := Lib.hid hc
  have HMV : Hid (mayV D len = true) := by show mayV D len = true; rw [mayV_check, hc]; rfl
  have HMAY : Hid (∀ W, Below w.heap.size w W → Calls Try.prog 8 #[.slice a len cap] W fun e w' => e = .returned (.bool true) ∧ W = w') := fun W hW => by
    have := refMay_any a len cap D W (by omega) (HD.out.below hW)
    rw [HMV.out] at this; exact this
  have HCHK : Hid (∀ W, Below w.heap.size w W → Calls Try.prog 9 #[.slice a len cap] W fun e w' => e = .returned (.int .i64 0) ∧ Below W.heap.size W w') := fun W hW => by
    have := check_any a len cap D W (by omega) (HD.out.below hW)
    rw [HCV.out] at this; exact this
  clear hD hL hc
  have t1 : decide (100 < (len : Int)) = false := by simp; omega
  have t2 : decide (500 < (n : Int)) = false := by simp; omega
  go_enter Try.func3, Try.ntmps3
  go_wp2_with fail
  refine (known_any _).mono ?_
  rintro e w1 ⟨rfl, hb1⟩
  have B1 := Lib.hid hb1; clear hb1
  go_wp2_with fail
  refine (new_good a len cap D _ h8 (HD.out.below B1.out) HCV.out).mono ?_
  rintro e w2 ⟨g, rfl, h1, h2, hM, hB⟩
  have B2 : Hid (Below w.heap.size w w2) := B1.out.trans (hB.mono B1.out.size)
  have M2 := Lib.hid hM
  have G2 : Hid (w.heap.size ≤ g) := Nat.le_trans B1.out.size h1
  clear h1 h2 hM hB
  go_wp2_with fail
  refine (HMAY.out _ B2.out).mono ?_
  rintro e w2' ⟨rfl, rfl⟩
  go_wp2_with fail
  refine (HCHK.out _ B2.out).mono ?_
  rintro e w3 ⟨rfl, hB⟩
  have B3 : Hid (Below w.heap.size w w3) := B2.out.trans (hB.mono B2.out.size)
  have M3 := Lib.hid (M2.out.below hB)
  clear hB
  go_wp2_with fail
  clear t1 t2
  have R4 : Hid (RefAt (w3.alloc (.cells #[.slice a len cap, .slice none 0 0, .bool false] 34)) w3.heap.size a len cap [] false) := ⟨.slice none 0 0, heap_alloc_new _ _, rfl, .inl ⟨rfl, rfl⟩⟩
  have R0 : Hid (w.heap.size ≤ w3.heap.size) := B3.out.size
  have N4 : Hid (g ≠ w3.heap.size) := by have := heap_lt M3.out; show _ ≠ _; omega
  obtain ⟨r, hr⟩ : ∃ r, r = w3.heap.size := ⟨_, rfl⟩
  rw [← hr] at R4 R0 N4 ⊢
  go_loopw [5, 62] (fun m i wr => ∃ k : Nat, ∃ g : Nat, ∃ S : HMon, ∃ es : Evs, ∃ sf : Bool, k ≤ n ∧ i = .int .i64 k ∧ m = .pointer (some ⟨g, 0, none⟩) ∧ RInv D len S es sf ∧ Fits S k ∧ es.length ≤ k ∧ MonAt wr g S ∧ RefAt wr r a len cap es sf ∧ w.heap.size ≤ g ∧ g ≠ r ∧ Below w.heap.size w wr) (fun _ i _ => n - (intOf i).toNat)
  case atStart =>
    have hfit : Fits (newMon D len len) 0 := by
      refine ⟨h8, fun i hi => ?_, fun i hi => ?_⟩
      · have hi' : i < len := hi
        have := HD.out.2 i hi'
        simp [newMon, hi']; exact this
      · have hi' : i < len := hi
        simp [newMon, hi']
    exact ⟨0, g, newMon D len len, [], false, Nat.zero_le _, rfl, rfl, RInv.start D len, hfit, Nat.le_refl _, M3.out.alloc _, R4.out, G2.out, N4.out, B3.out.alloc B3.out.size _⟩
  case round =>
    clear R4 N4 M3 M2 B3 B2 B1 G2 hr
    obtain ⟨k, g, S, es, sf, hk, rfl, rfl, hI, hF, hE, hM, hR, hG, hNE, hB⟩ := hrel
    have HM := Lib.hid hM; have HB := Lib.hid hB; have HI := Lib.hid hI; have HF := Lib.hid hF; have HE := Lib.hid hE; have HR := Lib.hid hR; have HG := Lib.hid hG; have HNE := Lib.hid hNE
    clear hM hB hI hF hE hR hG hNE
    by_cases hlt : k < n
    · obtain ⟨sb, soff, rfl, hsl, hcells⟩ := HL.out.1.at (by omega)
      obtain ⟨-, ⟨hp0, hp1⟩, hrk⟩ := HL.out.2 k hlt
      have x0 : wr.cell? ⟨sb, soff + k * 6, none⟩ = some (.int .i64 (L k).kind) := by rw [HB.out.cell hsl]; exact hcells k hlt 0 (by omega)
      have x1 : wr.cell? ⟨sb, soff + k * 6 + 1, none⟩ = some (.int .i64 (L k).part) := by rw [HB.out.cell hsl]; exact hcells k hlt 1 (by omega)
      have x2 : wr.cell? ⟨sb, soff + k * 6 + 2, none⟩ = some (.int .u8 ((L k).rk : Int)) := by rw [HB.out.cell hsl]; exact hcells k hlt 2 (by omega)
      have x3 : wr.cell? ⟨sb, soff + k * 6 + 3, none⟩ = some (.int .u8 ((L k).rt : Int)) := by rw [HB.out.cell hsl]; exact hcells k hlt 3 (by omega)
      have x4 : wr.cell? ⟨sb, soff + k * 6 + 4, none⟩ = some (.int .u32 ((L k).used : Int)) := by rw [HB.out.cell hsl]; exact hcells k hlt 4 (by omega)
      have x5 : wr.cell? ⟨sb, soff + k * 6 + 5, none⟩ = some (.int .u32 ((L k).pc : Int)) := by rw [HB.out.cell hsl]; exact hcells k hlt 5 (by omega)
      clear hcells
      generalize (L k).kind = kd at *
      generalize (L k).part = q at *
      generalize (L k).rk = rk at *
      generalize (L k).rt = rt at *
      generalize (L k).used = us at *
      generalize (L k).pc = pc at *
      have HMa : Hid (∀ o, MonAt (wr.alloc o) g S) := fun o => HM.out.alloc o
      have HRa : Hid (∀ o, RefAt (wr.alloc o) r a len cap es sf) := fun o => HR.out.below ((Below.refl _ _).alloc (Nat.le_refl _) o)
      have HBa : Hid (∀ o, Below w.heap.size w (wr.alloc o)) := fun o => HB.out.alloc HB.out.size o
      by_cases hkd : kd = 0
      · subst hkd
        have FS := Lib.hid (HF.out.ev q rk)
        have HEV := Lib.hid (fun W h => event_gen g S q rk k (.int .u8 (rt : Int)) (.int .u32 (us : Int)) (.int .u32 (pc : Int)) W h HF.out hrk (by omega))
        have HRE := Lib.hid (fun W h hW => refEvent_gen r a len cap es sf D S q rk (.int .u8 (rt : Int)) (.int .u32 (us : Int)) (.int .u32 (pc : Int)) W h HI.out (by have := HE.out; omega) hcap hrk w HD.out hW R0.out)
        obtain ⟨res, hres⟩ : ∃ res, res = S.ev q rk := ⟨_, rfl⟩
        rw [← hres] at FS HEV HRE
        obtain ⟨act, er, S'⟩ := res
        clear hres
        go_wp2_with fail
        refine (HEV.out _ (HMa.out _)).mono ?_
        rintro e w5 ⟨rfl, hM1, hG1⟩
        have HM5 : Hid (MonAt w5 g S') := hM1
        have HR5 : Hid (RefAt w5 r a len cap es sf) := (HRa.out _).grown (HMa.out _) hG1 (Ne.symm HNE.out)
        have HB5 : Hid (Below w.heap.size w w5) := (HBa.out _).grown hG1 (by have := HB.out.size; simp; omega) (by intro k hk; have := HG.out; simp at hk; omega)
        have HX : Hid (w5.heap[wr.heap.size]? = some (.cells #[.int .i64 0, .int .i64 q, .int .u8 (rk : Int), .int .u8 (rt : Int), .int .u32 (us : Int), .int .u32 (pc : Int)] 39 (0, 0))) := (hG1.block _ (by simp) (by have := heap_lt HM.out; intro he; simp at he; omega)).trans (heap_alloc_new _ _)
        have y1 : w5.cell? ⟨wr.heap.size, 1, none⟩ = some (.int .i64 q) := cell_row HX.out rfl
        have y2 : w5.cell? ⟨wr.heap.size, 2, none⟩ = some (.int .u8 (rk : Int)) := cell_row HX.out rfl
        have y3 : w5.cell? ⟨wr.heap.size, 3, none⟩ = some (.int .u8 (rt : Int)) := cell_row HX.out rfl
        have y4 : w5.cell? ⟨wr.heap.size, 4, none⟩ = some (.int .u32 (us : Int)) := cell_row HX.out rfl
        have y5 : w5.cell? ⟨wr.heap.size, 5, none⟩ = some (.int .u32 (pc : Int)) := cell_row HX.out rfl
        clear hM1 hG1
        go_wp2_with fail
        refine (HRE.out _ HR5.out HB5.out).mono ?_
        rintro e w6 ⟨rfl, hF6, es', sf', hR6, hI6, hE6⟩
        have HM1 : Hid (MonAt w6 g S') := HM5.out.evf hF6 HNE.out
        have HR1 := Lib.hid hR6
        have HI1 : Hid (RInv D len S' es' sf') := hI6
        have HE1 : Hid (es'.length ≤ k + 1) := by have := HE.out; show _ ≤ _; omega
        have HB1 : Hid (Below w.heap.size w w6) := HB5.out.trans (hF6.below.mono R0.out)
        have HG1 : Hid (w.heap.size ≤ g) := HG.out
        have HNE1 : Hid (g ≠ r) := HNE.out
        clear hF6 hR6 hI6 hE6 HM HR HB HE HI HMa HRa HBa HX HB5 HR5 HM5 HEV HRE x0 x1 x2 x3 x4 x5 y1 y2 y3 y4 y5 HF

        have RU : Hid ((S').runs = (S').runs) := rfl
        have HRI := Lib.hid (fun p => HI1.out.runs p)
        have HRR := Lib.hid (fun p => HI1.out.rst p)
        have SFE : Hid ((S').safe = sf') := HI1.out.safe
        have hthere : Hid (∀ p, (S').there p = (decide (0 ≤ p) && decide (p < (len : Int)))) := fun p => by unfold HMon.there; rw [HI1.out.n]
        have hes1 : Hid ((es').length ≤ 1000) := by have := HE1.out; show _ ≤ _; omega
        go_wp2_with fail
        go_loop [16] (fun i => ∃ p : Int, -1 ≤ p ∧ p ≤ (len : Int) + 1 ∧ i = .int .i64 p) (fun i => ((len : Int) + 2 - intOf i).toNat)
        case atStart => exact ⟨-1, by omega, by omega, rfl⟩
        case round =>
          obtain ⟨p, hp0, hp1, rfl⟩ := hrel
          by_cases hpl : p ≤ (len : Int)
          · have t1 : decide (p ≤ (len : Int)) = true := by simpa using hpl
            obtain ⟨b, hb⟩ : ∃ b, (S').runs p = b := ⟨_, rfl⟩
            have HB0 := Lib.hid hb
            have HB2 : Hid (b = (decide (0 ≤ p) && decide (p < (len : Int)) && !(sf') && decide (cnt (es') p 1 = 0))) := by
              show b = _
              rw [← hb, HRI.out p, hthere.out p]
            obtain ⟨c, hc⟩ : ∃ c, (S').rst p = c := ⟨_, rfl⟩
            have HC0 := Lib.hid hc
            have HC2 : Hid (cnt (es') p 2 = c) := by show _ = c; rw [← hc, HRR.out p]
            clear hb hc
            cases b
            all_goals
              go_wp2_with fail
              refine (runs_is g (S') p _ _ HM1.out FS.out.n8 HB0.out).mono ?_
              rintro e wz ⟨rfl, rfl⟩
              go_wp2_with fail
              refine (refRuns_any r a len cap (es') (sf') p _ _ HR1.out (by have := hes1.out; omega) HB2.out).mono ?_
              rintro e wz ⟨rfl, rfl⟩
              go_wp2_with fail
              refine (restarts_is g (S') p c _ HM1.out FS.out.n8 HC0.out).mono ?_
              rintro e wz ⟨rfl, rfl⟩
              go_wp2_with fail
              refine (refRestarts_is r a len cap (es') (sf') p c _ HR1.out hes1.out HC2.out).mono ?_
              rintro e wz ⟨rfl, rfl⟩
              go_wp2_with fail
              go_round
              case rel => exact ⟨p + 1, by omega, by omega, by go_num⟩
              case measure => simp [intOf]; omega
          · have t1 : decide (p ≤ (len : Int)) = false := by simpa using hpl
            have c2 : (w6).cell? ⟨r, 2, none⟩ = some (.bool (sf')) := by
              obtain ⟨v, h1, h2⟩ := HR1.out
              exact cell_row h1 rfl
            go_wp2_with fail
            go_quiet ((go_at_call 20; exact Calls.quiet_of_same ((safe_is g (S') (sf') _ (HM1.out.drewN) SFE.out).mono fun _ _ ⟨h1, h2⟩ => ⟨h1, h2.symm⟩)))
            go_wp2_with fail
            go_roundw
            case rel => exact ⟨k + 1, g, S', es', sf', by omega, by go_num, rfl, HI1.out, FS.out, HE1.out, HM1.out.drewN, HR1.out.below (below_drewN (Below.refl _ _)), HG1.out, HNE1.out, below_drewN HB1.out⟩
            case measure => simp [intOf]; omega
      · by_cases hkd1 : kd = 1
        · subst hkd1
          go_wp2_with fail
          refine (fail_any g S _ (HMa.out _)).mono ?_
          rintro e w5 ⟨rfl, hM5, hG5⟩
          have HM5 := Lib.hid hM5
          have HR5 : Hid (RefAt w5 r a len cap es sf) := (HRa.out _).grown (HMa.out _) hG5 (Ne.symm HNE.out)
          have HB5 : Hid (Below w.heap.size w w5) := (HBa.out _).grown hG5 (by have := HB.out.size; simp; omega) (by intro k hk; have := HG.out; simp at hk; omega)
          have c2 : w5.cell? ⟨r, 2, none⟩ = some (.bool sf) := by
            obtain ⟨v, h1, h2⟩ := HR5.out
            exact cell_row h1 rfl
          have f2 : w5.frozen? ⟨r, 2, none⟩ = false := by
            obtain ⟨v, h1, h2⟩ := HR5.out
            exact frozen_of_row _ _ _ _ _ h1
          have HR1 : Hid (RefAt (w5.setCell ⟨r, 2, none⟩ (.bool true)) r a len cap es true) := ref_set2 HR5.out
          have HM1 : Hid (MonAt (w5.setCell ⟨r, 2, none⟩ (.bool true)) g { S with safe := true }) := HM5.out.refset HNE.out
          have HB1 : Hid (Below w.heap.size w (w5.setCell ⟨r, 2, none⟩ (.bool true))) := HB5.out.setCell (p := ⟨r, 2, none⟩) R0.out _
          have HI1 : Hid (RInv D len { S with safe := true } es true) := HI.out.fail
          have FS : Hid (Fits { S with safe := true } (k + 1)) := HF.out.fail
          have HE1 : Hid (es.length ≤ k + 1) := by have := HE.out; show _ ≤ _; omega
          have HG1 : Hid (w.heap.size ≤ g) := HG.out
          have HNE1 : Hid (g ≠ r) := HNE.out
          clear hM5 hG5 HM HR HB HE HI HMa HRa HBa HB5 HR5 HM5 x0 x1 x2 x3 x4 x5 HF
          go_wp2_with fail
          clear c2 f2
          generalize w5.setCell ⟨r, 2, none⟩ (.bool true) = w6 at *
          obtain ⟨S', hS'⟩ : ∃ S', S' = ({ S with safe := true } : HMon) := ⟨_, rfl⟩
          rw [← hS'] at HM1 HI1 FS
          clear hS'

          have RU : Hid ((S').runs = (S').runs) := rfl
          have HRI := Lib.hid (fun p => HI1.out.runs p)
          have HRR := Lib.hid (fun p => HI1.out.rst p)
          have SFE : Hid ((S').safe = true) := HI1.out.safe
          have hthere : Hid (∀ p, (S').there p = (decide (0 ≤ p) && decide (p < (len : Int)))) := fun p => by unfold HMon.there; rw [HI1.out.n]
          have hes1 : Hid ((es).length ≤ 1000) := by have := HE1.out; show _ ≤ _; omega
          go_wp2_with fail
          go_loop [16] (fun i => ∃ p : Int, -1 ≤ p ∧ p ≤ (len : Int) + 1 ∧ i = .int .i64 p) (fun i => ((len : Int) + 2 - intOf i).toNat)
          case atStart => exact ⟨-1, by omega, by omega, rfl⟩
          case round =>
            obtain ⟨p, hp0, hp1, rfl⟩ := hrel
            by_cases hpl : p ≤ (len : Int)
            · have t1 : decide (p ≤ (len : Int)) = true := by simpa using hpl
              obtain ⟨b, hb⟩ : ∃ b, (S').runs p = b := ⟨_, rfl⟩
              have HB0 := Lib.hid hb
              have HB2 : Hid (b = (decide (0 ≤ p) && decide (p < (len : Int)) && !(true) && decide (cnt (es) p 1 = 0))) := by
                show b = _
                rw [← hb, HRI.out p, hthere.out p]
              obtain ⟨c, hc⟩ : ∃ c, (S').rst p = c := ⟨_, rfl⟩
              have HC0 := Lib.hid hc
              have HC2 : Hid (cnt (es) p 2 = c) := by show _ = c; rw [← hc, HRR.out p]
              clear hb hc
              cases b
              all_goals
                go_wp2_with fail
                refine (runs_is g (S') p _ _ HM1.out FS.out.n8 HB0.out).mono ?_
                rintro e wz ⟨rfl, rfl⟩
                go_wp2_with fail
                refine (refRuns_any r a len cap (es) (true) p _ _ HR1.out (by have := hes1.out; omega) HB2.out).mono ?_
                rintro e wz ⟨rfl, rfl⟩
                go_wp2_with fail
                refine (restarts_is g (S') p c _ HM1.out FS.out.n8 HC0.out).mono ?_
                rintro e wz ⟨rfl, rfl⟩
                go_wp2_with fail
                refine (refRestarts_is r a len cap (es) (true) p c _ HR1.out hes1.out HC2.out).mono ?_
                rintro e wz ⟨rfl, rfl⟩
                go_wp2_with fail
                go_round
                case rel => exact ⟨p + 1, by omega, by omega, by go_num⟩
                case measure => simp [intOf]; omega
            · have t1 : decide (p ≤ (len : Int)) = false := by simpa using hpl
              have c2 : (w6).cell? ⟨r, 2, none⟩ = some (.bool (true)) := by
                obtain ⟨v, h1, h2⟩ := HR1.out
                exact cell_row h1 rfl
              go_wp2_with fail
              go_quiet ((go_at_call 20; exact Calls.quiet_of_same ((safe_is g (S') (true) _ (HM1.out.drewN) SFE.out).mono fun _ _ ⟨h1, h2⟩ => ⟨h1, h2.symm⟩)))
              go_wp2_with fail
              go_roundw
              case rel => exact ⟨k + 1, g, S', es, true, by omega, by go_num, rfl, HI1.out, FS.out, HE1.out, HM1.out.drewN, HR1.out.below (below_drewN (Below.refl _ _)), HG1.out, HNE1.out, below_drewN HB1.out⟩
              case measure => simp [intOf]; omega
        · by_cases hkd2 : kd = 2
          · subst hkd2
            go_wp2_with fail
            refine (reset_any g S _ (HMa.out _)).mono ?_
            rintro e w5 ⟨rfl, hM5, hG5⟩
            have HM5 := Lib.hid hM5
            have HR5 : Hid (RefAt w5 r a len cap es sf) := (HRa.out _).grown (HMa.out _) hG5 (Ne.symm HNE.out)
            have HB5 : Hid (Below w.heap.size w w5) := (HBa.out _).grown hG5 (by have := HB.out.size; simp; omega) (by intro k hk; have := HG.out; simp at hk; omega)
            clear hM5 hG5
            go_wp2_with fail
            refine (refReset_any r a len cap es sf _ HR5.out).mono ?_
            rintro e w6 ⟨rfl, hR6, hG6⟩
            have HR1 := Lib.hid hR6
            have HM1 : Hid (MonAt w6 g (rstMon S 8)) := HM5.out.other hG6 HNE.out
            have HB1 : Hid (Below w.heap.size w w6) := HB5.out.grown hG6 HB5.out.size (by intro k hk; have := R0.out; simp at hk; omega)
            have HI1 : Hid (RInv D len (rstMon S 8) [] false) := HI.out.reset h8
            have FS : Hid (Fits (rstMon S 8) (k + 1)) := HF.out.reset
            have HE1 : Hid (([] : Evs).length ≤ k + 1) := Nat.zero_le _
            have HG1 : Hid (w.heap.size ≤ g) := HG.out
            have HNE1 : Hid (g ≠ r) := HNE.out
            clear hR6 hG6 HM HR HB HE HI HMa HRa HBa HB5 HR5 HM5 x0 x1 x2 x3 x4 x5 HF
            obtain ⟨S', hS'⟩ : ∃ S', S' = rstMon S 8 := ⟨_, rfl⟩
            rw [← hS'] at HM1 HI1 FS
            clear hS'
            obtain ⟨es', hes'⟩ : ∃ es' : Evs, es' = [] := ⟨_, rfl⟩
            rw [← hes'] at HR1 HI1 HE1
            clear hes'

            have RU : Hid ((S').runs = (S').runs) := rfl
            have HRI := Lib.hid (fun p => HI1.out.runs p)
            have HRR := Lib.hid (fun p => HI1.out.rst p)
            have SFE : Hid ((S').safe = false) := HI1.out.safe
            have hthere : Hid (∀ p, (S').there p = (decide (0 ≤ p) && decide (p < (len : Int)))) := fun p => by unfold HMon.there; rw [HI1.out.n]
            have hes1 : Hid ((es').length ≤ 1000) := by have := HE1.out; show _ ≤ _; omega
            go_wp2_with fail
            go_loop [16] (fun i => ∃ p : Int, -1 ≤ p ∧ p ≤ (len : Int) + 1 ∧ i = .int .i64 p) (fun i => ((len : Int) + 2 - intOf i).toNat)
            case atStart => exact ⟨-1, by omega, by omega, rfl⟩
            case round =>
              obtain ⟨p, hp0, hp1, rfl⟩ := hrel
              by_cases hpl : p ≤ (len : Int)
              · have t1 : decide (p ≤ (len : Int)) = true := by simpa using hpl
                obtain ⟨b, hb⟩ : ∃ b, (S').runs p = b := ⟨_, rfl⟩
                have HB0 := Lib.hid hb
                have HB2 : Hid (b = (decide (0 ≤ p) && decide (p < (len : Int)) && !(false) && decide (cnt (es') p 1 = 0))) := by
                  show b = _
                  rw [← hb, HRI.out p, hthere.out p]
                obtain ⟨c, hc⟩ : ∃ c, (S').rst p = c := ⟨_, rfl⟩
                have HC0 := Lib.hid hc
                have HC2 : Hid (cnt (es') p 2 = c) := by show _ = c; rw [← hc, HRR.out p]
                clear hb hc
                cases b
                all_goals
                  go_wp2_with fail
                  refine (runs_is g (S') p _ _ HM1.out FS.out.n8 HB0.out).mono ?_
                  rintro e wz ⟨rfl, rfl⟩
                  go_wp2_with fail
                  refine (refRuns_any r a len cap (es') (false) p _ _ HR1.out (by have := hes1.out; omega) HB2.out).mono ?_
                  rintro e wz ⟨rfl, rfl⟩
                  go_wp2_with fail
                  refine (restarts_is g (S') p c _ HM1.out FS.out.n8 HC0.out).mono ?_
                  rintro e wz ⟨rfl, rfl⟩
                  go_wp2_with fail
                  refine (refRestarts_is r a len cap (es') (false) p c _ HR1.out hes1.out HC2.out).mono ?_
                  rintro e wz ⟨rfl, rfl⟩
                  go_wp2_with fail
                  go_round
                  case rel => exact ⟨p + 1, by omega, by omega, by go_num⟩
                  case measure => simp [intOf]; omega
              · have t1 : decide (p ≤ (len : Int)) = false := by simpa using hpl
                have c2 : (w6).cell? ⟨r, 2, none⟩ = some (.bool (false)) := by
                  obtain ⟨v, h1, h2⟩ := HR1.out
                  exact cell_row h1 rfl
                go_wp2_with fail
                go_quiet ((go_at_call 20; exact Calls.quiet_of_same ((safe_is g (S') (false) _ (HM1.out.drewN) SFE.out).mono fun _ _ ⟨h1, h2⟩ => ⟨h1, h2.symm⟩)))
                go_wp2_with fail
                go_roundw
                case rel => exact ⟨k + 1, g, S', es', false, by omega, by go_num, rfl, HI1.out, FS.out, HE1.out, HM1.out.drewN, HR1.out.below (below_drewN (Below.refl _ _)), HG1.out, HNE1.out, below_drewN HB1.out⟩
                case measure => simp [intOf]; omega
          · by_cases hkd3 : kd = 3
            · subst hkd3
              go_wp2_with fail
              refine (copy_any g S _ (HMa.out _)).mono ?_
              rintro e w5 ⟨rfl, hM5, hB5, hL5⟩
              generalize hGn : (wr.alloc _).heap.size = G at *
              have HM5 := Lib.hid hM5
              have gG : Hid (g < G) := by have := heap_lt (HMa.out (.cells #[.int .i64 3, .int .i64 q, .int .u8 (rk : Int), .int .u8 (rt : Int), .int .u32 (us : Int), .int .u32 (pc : Int)] 39)); rw [hGn] at this; exact this
              have rG : Hid (r < G) := by have := (HRa.out (.cells #[.int .i64 3, .int .i64 q, .int .u8 (rk : Int), .int .u8 (rt : Int), .int .u32 (us : Int), .int .u32 (pc : Int)] 39)).lt; rw [hGn] at this; exact this
              have wG : Hid (w.heap.size ≤ G) := by have := HG.out; have := gG.out; show _ ≤ _; omega
              have HO5 : Hid (MonAt w5 g S) := (HMa.out (.cells #[.int .i64 3, .int .i64 q, .int .u8 (rk : Int), .int .u8 (rt : Int), .int .u32 (us : Int), .int .u32 (pc : Int)] 39)).below (by rw [hGn]; exact hB5)
              have HR5 : Hid (RefAt w5 r a len cap es sf) := (HRa.out (.cells #[.int .i64 3, .int .i64 q, .int .u8 (rk : Int), .int .u8 (rt : Int), .int .u32 (us : Int), .int .u32 (pc : Int)] 39)).below (by rw [hGn]; exact hB5)
              have HB5 : Hid (Below w.heap.size w w5) := (HBa.out (.cells #[.int .i64 3, .int .i64 q, .int .u8 (rk : Int), .int .u8 (rt : Int), .int .u32 (us : Int), .int .u32 (pc : Int)] 39)).trans (hB5.mono wG.out)
              clear hM5 hB5 hL5 hGn
              have HI1 : Hid (RInv D len S es sf) := HI.out
              have FS : Hid (Fits S (k + 1)) := HF.out.more
              have HE1 : Hid (es.length ≤ k + 1) := by have := HE.out; show _ ≤ _; omega
              have HG1 := wG
              have HNE1 : Hid (G ≠ r) := by have := rG.out; show _ ≠ _; omega
              clear HM HR HB HE HI HMa HRa HBa x0 x1 x2 x3 x4 x5
              obtain ⟨wo, hwo⟩ : ∃ wo : World, wo = wr := ⟨_, rfl⟩
              clear hwo
              go_wp2_with fail
              go_loopw [118] (fun i wr => ∃ j : Nat, ∃ S2 : HMon, j ≤ len ∧ i = .int .i64 j ∧ Fits S2 (k + j) ∧ MonAt wr g S2 ∧ MonAt wr G S ∧ RefAt wr r a len cap es sf ∧ Below w.heap.size w wr) (fun i _ => len - (intOf i).toNat)
              case atStart => exact ⟨0, S, Nat.zero_le _, rfl, HF.out, HO5.out, HM5.out, HR5.out, HB5.out⟩
              case round =>
                obtain ⟨j, S2, hj, rfl, hF2, hO2, hM2, hR2, hB2⟩ := hrel
                clear HO5 HM5 HR5 HB5 HF
                have HF2 := Lib.hid hF2; have HO2 := Lib.hid hO2; have HM2 := Lib.hid hM2; have HR2 := Lib.hid hR2; have HB2 := Lib.hid hB2
                clear hF2 hO2 hM2 hR2 hB2
                by_cases hjl : j < len
                · have j1 : decide ((j : Int) < (len : Int)) = true := by simp; omega
                  go_wp2_with fail
                  refine (event_gen g S2 (j : Int) 3 (k + j) (.int .u8 0) (.int .u32 0) (.int .u32 0) _ HO2.out HF2.out (by omega) (by omega)).mono ?_
                  rintro e w6 ⟨rfl, hM6, hG6⟩
                  have HF6 : Hid (Fits (S2.ev (j : Int) 3).2.2 (k + (j + 1))) := HF2.out.ev (j : Int) 3
                  have HO6 : Hid (MonAt w6 g (S2.ev (j : Int) 3).2.2) := hM6
                  have HM6 : Hid (MonAt w6 G S) := HM2.out.other hG6 (by have := gG.out; omega)
                  have HR6 : Hid (RefAt w6 r a len cap es sf) := HR2.out.grown HO2.out hG6 (Ne.symm HNE.out)
                  have HB6 : Hid (Below w.heap.size w w6) := HB2.out.grown hG6 HB2.out.size (by intro k hk; have := HG.out; simp at hk; omega)
                  clear hM6 hG6
                  go_wp2_with fail
                  go_roundw
                  case rel => exact ⟨j + 1, (S2.ev (j : Int) 3).2.2, by omega, by go_num, HF6.out, HO6.out, HM6.out, HR6.out, HB6.out⟩
                  case measure => simp [intOf]; omega
                · obtain rfl : len = j := by omega
                  go_wp2_with fail
                  refine (fail_any g S2 _ HO2.out).mono ?_
                  rintro e w6 ⟨rfl, hM6, hG6⟩
                  have HM1 : Hid (MonAt w6 G S) := HM2.out.other hG6 (by have := gG.out; omega)
                  have HR1 : Hid (RefAt w6 r a len cap es sf) := HR2.out.grown HO2.out hG6 (Ne.symm HNE.out)
                  have HB1 : Hid (Below w.heap.size w w6) := HB2.out.grown hG6 HB2.out.size (by intro k hk; have := HG.out; simp at hk; omega)
                  clear hM6 hG6 HF2 HO2 HM2 HR2 HB2
                  have RU : Hid ((S).runs = (S).runs) := rfl
                  have HRI := Lib.hid (fun p => HI1.out.runs p)
                  have HRR := Lib.hid (fun p => HI1.out.rst p)
                  have SFE : Hid ((S).safe = sf) := HI1.out.safe
                  have hthere : Hid (∀ p, (S).there p = (decide (0 ≤ p) && decide (p < (len : Int)))) := fun p => by unfold HMon.there; rw [HI1.out.n]
                  have hes1 : Hid ((es).length ≤ 1000) := by have := HE1.out; show _ ≤ _; omega
                  go_wp2_with fail
                  go_loop [16] (fun i => ∃ p : Int, -1 ≤ p ∧ p ≤ (len : Int) + 1 ∧ i = .int .i64 p) (fun i => ((len : Int) + 2 - intOf i).toNat)
                  case atStart => exact ⟨-1, by omega, by omega, rfl⟩
                  case round =>
                    obtain ⟨p, hp0, hp1, rfl⟩ := hrel
                    by_cases hpl : p ≤ (len : Int)
                    · have t1 : decide (p ≤ (len : Int)) = true := by simpa using hpl
                      obtain ⟨b, hb⟩ : ∃ b, (S).runs p = b := ⟨_, rfl⟩
                      have HB0 := Lib.hid hb
                      have HB2 : Hid (b = (decide (0 ≤ p) && decide (p < (len : Int)) && !(sf) && decide (cnt (es) p 1 = 0))) := by
                        show b = _
                        rw [← hb, HRI.out p, hthere.out p]
                      obtain ⟨c, hc⟩ : ∃ c, (S).rst p = c := ⟨_, rfl⟩
                      have HC0 := Lib.hid hc
                      have HC2 : Hid (cnt (es) p 2 = c) := by show _ = c; rw [← hc, HRR.out p]
                      clear hb hc
                      cases b
                      all_goals
                        go_wp2_with fail
                        refine (runs_is G (S) p _ _ HM1.out FS.out.n8 HB0.out).mono ?_
                        rintro e wz ⟨rfl, rfl⟩
                        go_wp2_with fail
                        refine (refRuns_any r a len cap (es) (sf) p _ _ HR1.out (by have := hes1.out; omega) HB2.out).mono ?_
                        rintro e wz ⟨rfl, rfl⟩
                        go_wp2_with fail
                        refine (restarts_is G (S) p c _ HM1.out FS.out.n8 HC0.out).mono ?_
                        rintro e wz ⟨rfl, rfl⟩
                        go_wp2_with fail
                        refine (refRestarts_is r a len cap (es) (sf) p c _ HR1.out hes1.out HC2.out).mono ?_
                        rintro e wz ⟨rfl, rfl⟩
                        go_wp2_with fail
                        go_round
                        case rel => exact ⟨p + 1, by omega, by omega, by go_num⟩
                        case measure => simp [intOf]; omega
                    · have t1 : decide (p ≤ (len : Int)) = false := by simpa using hpl
                      have c2 : (w6).cell? ⟨r, 2, none⟩ = some (.bool (sf)) := by
                        obtain ⟨v, h1, h2⟩ := HR1.out
                        exact cell_row h1 rfl
                      go_wp2_with fail
                      go_quiet ((go_at_call 20; exact Calls.quiet_of_same ((safe_is G (S) (sf) _ (HM1.out.drewN) SFE.out).mono fun _ _ ⟨h1, h2⟩ => ⟨h1, h2.symm⟩)))
                      go_wp2_with fail
                      go_roundw
                      case rel => exact ⟨k + 1, G, S, es, sf, by omega, by go_num, rfl, HI1.out, FS.out, HE1.out, HM1.out.drewN, HR1.out.below (below_drewN (Below.refl _ _)), HG1.out, HNE1.out, below_drewN HB1.out⟩
                      case measure => simp [intOf]; omega
            · have tk0 : (kd == 0) = false := by simp; omega
              have tk1 : (kd == 1) = false := by simp; omega
              have tk2 : (kd == 2) = false := by simp; omega
              have tk3 : (kd == 3) = false := by simp; omega
              clear hkd hkd1 hkd2 hkd3
              obtain ⟨w6, hw6⟩ : ∃ w6, w6 = wr.alloc (.cells #[.int .i64 kd, .int .i64 q, .int .u8 (rk : Int), .int .u8 (rt : Int), .int .u32 (us : Int), .int .u32 (pc : Int)] 39) := ⟨_, rfl⟩
              have HM1 : Hid (MonAt w6 g S) := by rw [hw6]; exact HMa.out _
              have HR1 : Hid (RefAt w6 r a len cap es sf) := by rw [hw6]; exact HRa.out _
              have HB1 : Hid (Below w.heap.size w w6) := by rw [hw6]; exact HBa.out _
              have HI1 := HI
              have FS : Hid (Fits S (k + 1)) := HF.out.more
              have HE1 : Hid (es.length ≤ k + 1) := by have := HE.out; show _ ≤ _; omega
              have HG1 : Hid (w.heap.size ≤ g) := HG.out
              have HNE1 : Hid (g ≠ r) := HNE.out
              have HW6 := Lib.hid hw6
              clear hw6 HM HR HB HE HI HMa HRa HBa HF
              go_wp2_with fail
              rw [← HW6.out]
              clear HW6 x0 x1 x2 x3 x4 x5

              have RU : Hid ((S).runs = (S).runs) := rfl
              have HRI := Lib.hid (fun p => HI1.out.runs p)
              have HRR := Lib.hid (fun p => HI1.out.rst p)
              have SFE : Hid ((S).safe = sf) := HI1.out.safe
              have hthere : Hid (∀ p, (S).there p = (decide (0 ≤ p) && decide (p < (len : Int)))) := fun p => by unfold HMon.there; rw [HI1.out.n]
              have hes1 : Hid ((es).length ≤ 1000) := by have := HE1.out; show _ ≤ _; omega
              go_wp2_with fail
              go_loop [16] (fun i => ∃ p : Int, -1 ≤ p ∧ p ≤ (len : Int) + 1 ∧ i = .int .i64 p) (fun i => ((len : Int) + 2 - intOf i).toNat)
              case atStart => exact ⟨-1, by omega, by omega, rfl⟩
              case round =>
                obtain ⟨p, hp0, hp1, rfl⟩ := hrel
                by_cases hpl : p ≤ (len : Int)
                · have t1 : decide (p ≤ (len : Int)) = true := by simpa using hpl
                  obtain ⟨b, hb⟩ : ∃ b, (S).runs p = b := ⟨_, rfl⟩
                  have HB0 := Lib.hid hb
                  have HB2 : Hid (b = (decide (0 ≤ p) && decide (p < (len : Int)) && !(sf) && decide (cnt (es) p 1 = 0))) := by
                    show b = _
                    rw [← hb, HRI.out p, hthere.out p]
                  obtain ⟨c, hc⟩ : ∃ c, (S).rst p = c := ⟨_, rfl⟩
                  have HC0 := Lib.hid hc
                  have HC2 : Hid (cnt (es) p 2 = c) := by show _ = c; rw [← hc, HRR.out p]
                  clear hb hc
                  cases b
                  all_goals
                    go_wp2_with fail
                    refine (runs_is g (S) p _ _ HM1.out FS.out.n8 HB0.out).mono ?_
                    rintro e wz ⟨rfl, rfl⟩
                    go_wp2_with fail
                    refine (refRuns_any r a len cap (es) (sf) p _ _ HR1.out (by have := hes1.out; omega) HB2.out).mono ?_
                    rintro e wz ⟨rfl, rfl⟩
                    go_wp2_with fail
                    refine (restarts_is g (S) p c _ HM1.out FS.out.n8 HC0.out).mono ?_
                    rintro e wz ⟨rfl, rfl⟩
                    go_wp2_with fail
                    refine (refRestarts_is r a len cap (es) (sf) p c _ HR1.out hes1.out HC2.out).mono ?_
                    rintro e wz ⟨rfl, rfl⟩
                    go_wp2_with fail
                    go_round
                    case rel => exact ⟨p + 1, by omega, by omega, by go_num⟩
                    case measure => simp [intOf]; omega
                · have t1 : decide (p ≤ (len : Int)) = false := by simpa using hpl
                  have c2 : (w6).cell? ⟨r, 2, none⟩ = some (.bool (sf)) := by
                    obtain ⟨v, h1, h2⟩ := HR1.out
                    exact cell_row h1 rfl
                  go_wp2_with fail
                  go_quiet ((go_at_call 20; exact Calls.quiet_of_same ((safe_is g (S) (sf) _ (HM1.out.drewN) SFE.out).mono fun _ _ ⟨h1, h2⟩ => ⟨h1, h2.symm⟩)))
                  go_wp2_with fail
                  go_roundw
                  case rel => exact ⟨k + 1, g, S, es, sf, by omega, by go_num, rfl, HI1.out, FS.out, HE1.out, HM1.out.drewN, HR1.out.below (below_drewN (Below.refl _ _)), HG1.out, HNE1.out, below_drewN HB1.out⟩
                  case measure => simp [intOf]; omega
    · obtain rfl : n = k := by omega
      go_wp2_with fail
      go_ret
      exact ⟨rfl, HB.out⟩
end Go.Proofs.Ytfbbmapihgepmaa
