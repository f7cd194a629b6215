/- The walk of MemPlays. -/
import Derived.Test.YtfochgpjpngnlaaMemPl1
import Derived.Deep.RegionHeld3
import Derived.Deep.CutRange
import Derived.Deep.CutBlock
namespace Go.Proofs.Ytfochgpjpngnlaa
open Go.RowKit
set_option linter.unusedVariables false
theorem getall_p (g n : Nat) (M : MS) (hg : M.g = g) (hn : M.n = n) (w : World) (h : MemAt w 57 M) (h2 : n < 4294967296) :
    Calls Try.prog 15 #[.pointer (some ⟨g, 0, none⟩), .int .u32 0, .int .u32 (n : Int)] w fun e w' => ∃ a c, e = .returned (.tuple #[.slice a n c, .int .i64 0]) ∧ SliceAt w' a n (bV fun i => M.B (0 + i)) ∧ Below w.heap.size w w' := by
  have e1 : partM n 0 n = n := by unfold partM; rw [if_neg (by omega)]
  have e2 : partE n 0 n = 0 := by unfold partE; split <;> first | rfl | (rw [if_neg (by omega)])
  have := get_p g n M hg hn 0 n w h (by omega) h2
  rw [e1, e2] at this
  exact this
theorem zeroall_p (g n : Nat) (M : MS) (hg : M.g = g) (hn : M.n = n) (w : World) (h : MemAt w 57 M) (h2 : n < 4294967296) :
    Calls Try.prog 11 #[.pointer (some ⟨g, 0, none⟩), .int .u32 0, .int .u32 (n : Int)] w fun e w' => (∃ E, e = .returned (.int .i64 E)) ∧ Only M.W w w' :=
  (zero_p g n M hg hn 0 n w h (by omega) h2).mono fun e w' ⟨h1, _, h3⟩ => ⟨⟨_, h1⟩, h3⟩
theorem size_p (g n : Nat) (M : MS) (hg : M.g = g) (hn : M.n = n) (w : World) (h : MemAt w 57 M) :
    Calls Try.prog 10 #[.pointer (some ⟨g, 0, none⟩)] w fun e w' => e = .returned (.int .u32 (n : Int)) ∧ w = w' := by
  subst hg; subst hn
  exact size_any M w h
set_option maxHeartbeats 16000000 in
set_option maxRecDepth 100000 in
theorem plays_any (n : Nat) (la : Option Addr) (ll lc : Nat) (L : Nat → Reg) (ba : Option Addr) (bl bc : Nat) (B : Nat → DoR) (w : World) (hn32 : n < 4294967296) (hL : RegsAt w la ll L) (hll : ll ≤ 9223372036854775807) (hB : DosAt w ba bl B) (hbl : bl ≤ 9223372036854775807) :
    Calls Try.prog 3 #[.int .u32 (n : Int), .slice la ll lc, .slice ba bl bc] w fun e w' => e = .returned (.bool true) ∧ Below w.heap.size w w' := by
  have HL := Lib.hid hL
  have HB := Lib.hid hB
  clear hL hB
  cases t1 : decide ((3000 : Int) < (n : Int))
  case true =>
    cases t2 : decide ((n : Int) ≤ (262144 : Int))
    case true =>
      go_enter Try.func3, Try.ntmps3
      go_wp2_with fail
      refine (known_any w).mono ?_
      rintro e w1 ⟨rfl, hb⟩
      have B1 := Lib.hid hb
      clear hb
      go_wp2_with fail
      go_ret
      exact ⟨rfl, B1.out⟩
    case false =>
      cases t3 : decide ((50 : Int) < (ll : Int))
      case true =>
        go_enter Try.func3, Try.ntmps3
        go_wp2_with fail
        refine (known_any w).mono ?_
        rintro e w1 ⟨rfl, hb⟩
        have B1 := Lib.hid hb
        clear hb
        go_wp2_with fail
        go_ret
        exact ⟨rfl, B1.out⟩
      case false =>
        have hbig : 262144 < n := by have := of_decide_eq_false t2; omega
        have q1 : ((0 : Int) != (n : Int)) = true := by simp; omega
        have q1' : ((0 : Int) == (n : Int)) = false := by simp; omega
        go_enter Try.func3, Try.ntmps3
        go_wp2_with fail
        refine (known_any w).mono ?_
        rintro e w1 ⟨rfl, hb⟩
        have B1 := Lib.hid hb
        clear hb
        go_wp2_with fail
        refine (heavy_any ba bl bc B w1 hbl (HB.out.below B1.out)).mono ?_
        rintro e w2 ⟨⟨b, rfl⟩, hw⟩
        have B2 : Hid (Below w.heap.size w w2) := B1.out.trans (hw.mono B1.out.size)
        clear hw
        cases b
        case true =>
          go_wp2_with fail
          go_ret
          exact ⟨rfl, B2.out⟩
        go_wp2_with fail
        refine (new_bad n w2 hbig hn32).mono ?_
        rintro e w' ⟨rfl, rfl⟩
        go_wp2_with fail
        refine (rnew_bad n w2 hbig hn32).mono ?_
        rintro e w' ⟨rfl, rfl⟩
        go_wp2_with fail
        refine (size_nil w2).mono ?_
        rintro e w' ⟨rfl, rfl⟩
        go_wp2_with fail
        go_ret
        exact ⟨rfl, B2.out⟩
  case false =>
    cases t3 : decide ((50 : Int) < (ll : Int))
    case true =>
      go_enter Try.func3, Try.ntmps3
      go_wp2_with fail
      refine (known_any w).mono ?_
      rintro e w1 ⟨rfl, hb⟩
      have B1 := Lib.hid hb
      clear hb
      go_wp2_with fail
      go_ret
      exact ⟨rfl, B1.out⟩
    have hsm : n ≤ 262144 := by have := of_decide_eq_false t1; omega
    go_enter Try.func3, Try.ntmps3
    go_wp2_with fail
    refine (known_any w).mono ?_
    rintro e w1 ⟨rfl, hb⟩
    have B1 := Lib.hid hb
    clear hb
    go_wp2_with fail
    refine (heavy_any ba bl bc B w1 hbl (HB.out.below B1.out)).mono ?_
    rintro e w2 ⟨⟨b, rfl⟩, hw⟩
    have B2 : Hid (Below w.heap.size w w2) := B1.out.trans (hw.mono B1.out.size)
    clear hw
    cases b
    case true =>
      go_wp2_with fail
      go_ret
      exact ⟨rfl, B2.out⟩
    go_wp2_with fail
    refine (new_ok n w2 hsm).mono ?_
    rintro e w3 ⟨M, rfl, hN⟩
    have N := Lib.hid hN
    have B3 : Hid (Below w.heap.size w w3) := B2.out.trans (hN.below.mono B2.out.size)
    clear hN
    go_wp2_with fail
    refine (rnew_ok n w3 hsm).mono ?_
    rintro e w4 ⟨R, rfl, hN⟩
    have SP4 : Hid (Sp w w4 M R n) := by
      have h1 := N.out.mem
      have h2 := heap_lt h1.obj
      have h3 := hN.g
      have h4 := B2.out.size
      have h5 := B3.out.size
      refine ⟨h1.below hN.below, hN.mem, N.out.eN, hN.eN, fun hp => ?_, B3.out.trans (hN.below.mono B3.out.size)⟩
      have h6 := N.out.b hp
      have h7 := hN.b hp
      have h8 := h1.sl.lt (by rw [N.out.eN]; exact hp)
      omega
    have AG4 : Hid (Ag n M R) := fun i _ => by rw [N.out.eB, hN.eB]
    clear hN B1 B2 B3
    go_wp2_with fail
    refine (size_p M.g n M rfl SP4.out.mn w4 SP4.out.m).mono ?_
    rintro e w' ⟨rfl, rfl⟩
    go_wp2_with fail
    go_loopw [7, 79] (fun v i wr => ∃ (k : Nat) (M1 R1 : MS), k ≤ bl ∧ i = .int .i64 k ∧ v = .pointer (some ⟨M1.g, 0, none⟩) ∧ R1.g = R.g ∧ Sp w wr M1 R1 n ∧ Ag n M1 R1) (fun _ i _ => bl - (intOf i).toNat)
    case atStart => exact ⟨0, M, R, Nat.zero_le _, rfl, rfl, rfl, SP4.out, AG4.out⟩
    case round =>
      clear SP4 AG4
      obtain ⟨k, M1, R1, hk, rfl, rfl, hR1, hsp, hag⟩ := hrel
      have SP := Lib.hid hsp; have AG := Lib.hid hag; have RR := Lib.hid hR1
      clear hsp hag hR1
      by_cases hlt : k < bl
      · skip
        obtain ⟨sb, soff, rfl, hsl, hcells⟩ := HB.out.1.at (by omega)
        have x0 : wr.cell? ⟨sb, soff + k * 5, none⟩ = some (.int .i64 (B k).kind) := by rw [SP.out.B.cell hsl]; exact hcells k hlt 0 (by omega)
        have x1 : wr.cell? ⟨sb, soff + k * 5 + 1, none⟩ = some (.int .u32 ((B k).at_ : Int)) := by rw [SP.out.B.cell hsl]; exact hcells k hlt 1 (by omega)
        have x2 : wr.cell? ⟨sb, soff + k * 5 + 2, none⟩ = some (.int .u32 ((B k).n : Int)) := by rw [SP.out.B.cell hsl]; exact hcells k hlt 2 (by omega)
        have x3 : wr.cell? ⟨sb, soff + k * 5 + 3, none⟩ = some (.int .u32 ((B k).x : Int)) := by rw [SP.out.B.cell hsl]; exact hcells k hlt 3 (by omega)
        have x4 : wr.cell? ⟨sb, soff + k * 5 + 4, none⟩ = some (.slice (B k).la (B k).ll (B k).lc) := by rw [SP.out.B.cell hsl]; exact hcells k hlt 4 (by omega)
        clear hcells
        have hq := (HB.out.2 k).at_
        have hnv := (HB.out.2 k).n
        have hxx := (HB.out.2 k).x
        have hXX : Hid (SliceAt w (B k).la (B k).ll (bV (B k).L)) := (HB.out.2 k).L
        have hXl : Hid (∀ i, (B k).L i < 256) := (HB.out.2 k).lt
        have hxm : Hid ((B k).ll ≤ 9223372036854775807) := by have h1 := (HB.out.2 k).cap; have h2 := (HB.out.2 k).max; unfold maxLen at h2; show _ ≤ _; omega
        generalize (B k).kind = kd at *
        generalize (B k).at_ = q at *
        generalize (B k).n = nv at *
        generalize (B k).x = xx at *
        generalize (B k).la = xa at *
        generalize (B k).ll = xl at *
        generalize (B k).lc = xc at *
        generalize (B k).L = X at *
        have HBN : Hid (Below wr.heap.size wr (wr.alloc (.cells #[.int .i64 kd, .int .u32 (q : Int), .int .u32 (nv : Int), .int .u32 (xx : Int), .slice xa xl xc] 37))) := alloc_below _ _
        have HBO : Hid ((wr.alloc (.cells #[.int .i64 kd, .int .u32 (q : Int), .int .u32 (nv : Int), .int .u32 (xx : Int), .slice xa xl xc] 37)).heap[wr.heap.size]? = some (.cells #[.int .i64 kd, .int .u32 (q : Int), .int .u32 (nv : Int), .int .u32 (xx : Int), .slice xa xl xc] 37 (0, 0))) := heap_alloc_new _ _
        have SA : Hid (Sp w (wr.alloc (.cells #[.int .i64 kd, .int .u32 (q : Int), .int .u32 (nv : Int), .int .u32 (xx : Int), .slice xa xl xc] 37)) M1 R1 n) := SP.out.same HBN.out
        have FN : Hid (¬ M1.W wr.heap.size) := fun h => by have h1 := SP.out.m.sl.lt h.1; have h2 := h.2; omega
        have RN : Hid (¬ R1.W wr.heap.size) := fun h => by have h1 := SP.out.r.sl.lt h.1; have h2 := h.2; omega
        clear HBN
        go_upto_block 2 with fail
        generalize wr.alloc (.cells #[.int .i64 kd, .int .u32 (q : Int), .int .u32 (nv : Int), .int .u32 (xx : Int), .slice xa xl xc] 37) = wa at *
        generalize hgb : wr.heap.size = gb at *
        clear hgb x0 x1 x2 x3 x4
        go_cut [7, 13, 14, 15, 16, 17, 18, 19, 20, 21, 22, 23, 24, 25, 79] from 79 to 256 (fun v s13 s14 s15 s16 s17 s18 s19 s20 s21 s22 s23 s24 s25 i wx => ∃ M2 R2 : MS, v = .pointer (some ⟨M2.g, 0, none⟩) ∧ i = .int .i64 k ∧ R2.g = R.g ∧ Sp w wx M2 R2 n ∧ Ag n M2 R2)
        case rest =>
          obtain ⟨M2, R2, rfl, rfl, e1, e2, e3⟩ := hcut
          have RR2 := Lib.hid e1; have SP7 := Lib.hid e2; have AG7 := Lib.hid e3
          clear e1 e2 e3 SA HBO FN RN AG SP
          go_wp2_with fail
          refine (getall_p M2.g n M2 rfl SP7.out.mn wc SP7.out.m hn32).mono ?_
          rintro e w24 ⟨ta, tc, rfl, hts, htb⟩
          have SP24 := Lib.hid (SP7.out.same htb)
          have HTS := Lib.hid hts
          obtain ⟨ra, rc, hrv, -, -, hrs⟩ := SP24.out.r.sl.slice
          have cR := SP24.out.r.cell
          rw [hrv, RR2.out, SP24.out.rn] at cR
          have lR : R.g < w24.heap.size := by have := heap_lt SP24.out.r.obj; rw [RR2.out] at this; exact this
          have HRS : Hid (SliceAt w24 ra n (bV R2.B)) := by have := hrs; rw [SP24.out.rn] at this; exact this
          clear hts htb hrv hrs
          obtain ⟨ST, hST⟩ : ∃ x, x = strB (fun i => M2.B (0 + i)) n := ⟨_, rfl⟩
          have k1 : ∀ j, (convert 35 9 (.slice ta n tc)).run Try.prog (w24.drewN j) = .ok (.string ST) (w24.drewN j) := fun j => by rw [hST]; exact str_at tc (HTS.out.below ⟨rfl, rfl, rfl, Nat.le_refl _, fun _ _ => rfl⟩)
          have k2 : ∀ j, (convert 35 9 (.slice ra n rc)).run Try.prog (w24.drewN j) = .ok (.string ST) (w24.drewN j) := fun j => by rw [hST, ← AG7.out.all]; exact str_at rc (HRS.out.below ⟨rfl, rfl, rfl, Nat.le_refl _, fun _ _ => rfl⟩)
          clear hST
          go_wp2_with fail
          go_quiet (fail)
          go_wp2_with fail
          go_roundw
          case rel =>
            exact ⟨k + 1, M2, R2, by omega, by go_num, rfl, RR2.out, SP24.out.same ⟨rfl, rfl, rfl, Nat.le_refl _, fun _ _ => rfl⟩, AG7.out⟩
          case measure => simp [intOf]; omega
        case first =>
          by_cases k0 : kd = 0
          · subst k0
            as_aux_lemma =>
              go_wp2_with fail
              have HO0 : Hid (wa.drew.heap[gb]? = _) := HBO.out
              have SD : Hid (Sp w wa.drew M1 R1 n) := SA.out.same (Below.refl _ _).drew
              go_region_held3 (fun V => (V.cell? ⟨gb, 1, none⟩ = some (.int .u32 (q : Int)) ∧ V.cell? ⟨gb, 2, none⟩ = some (.int .u32 (nv : Int))) ∧ gb < V.heap.size)
                (first | exact ⟨⟨cell_row HO6.out rfl, cell_row HO6.out rfl⟩, heap_lt HO6.out⟩ | exact ⟨⟨cell_row HO5.out rfl, cell_row HO5.out rfl⟩, heap_lt HO5.out⟩ | exact ⟨⟨cell_row HO0.out rfl, cell_row HO0.out rfl⟩, heap_lt HO0.out⟩)
                (first
                  | (have _tok := HO5; go_at_call 12; (with_reducible refine (rzero_p R.g n R1 RR.out SP5.out.rn q nv w5 SP5.out.r hq hnv).mono ?_); rintro e w6 ⟨rfl, hm6, ho6⟩; have SP6 := Lib.hid (SP5.out.rs hm6 ho6); have HO6 : Hid (w6.heap[gb]? = _) := (ho6.block gb (heap_lt HO5.out) RN.out).trans HO5.out; clear hm6 ho6)
                  | (go_at_call 11; (with_reducible refine (zero_p M1.g n M1 rfl SD.out.mn q nv wa.drew SD.out.m hq hnv).mono ?_); rintro e w5 ⟨rfl, hm5, ho5⟩; have SP5 := Lib.hid (SD.out.ms hm5 ho5); have HO5 : Hid (w5.heap[gb]? = _) := (ho5.block gb (heap_lt HO0.out) FN.out).trans HO0.out; clear hm5 ho5))
              have AG6 := Lib.hid (AG.out.put (at_ := q) (k := partM n q nv) (X := fun _ => 0))
              obtain ⟨M2, hM2⟩ : ∃ x, x = M1.put q (partM n q nv) (fun _ => 0) := ⟨_, rfl⟩
              obtain ⟨R2, hR2⟩ : ∃ x, x = R1.put q (partM n q nv) (fun _ => 0) := ⟨_, rfl⟩
              rw [← hM2, ← hR2] at SP6 AG6
              have G2 : Hid (M2.g = M1.g) := by show _ = _; rw [hM2]; rfl
              have RR2 : Hid (R2.g = R.g) := by show _ = _; rw [hR2]; exact RR.out
              have T1 : (partE n q nv == partE n q nv) = true := by simp
              have T2 : (partE n q nv != partE n q nv) = false := by simp
              generalize partE n q nv = E at *
              clear SP5 SA SD HO0 HO5 HO6 HBO FN RN hM2 hR2
              go_wp2_with fail
              go_meet
              case rel => exact ⟨M2, R2, by rw [G2.out], rfl, RR2.out, SP6.out, AG6.out⟩
          by_cases k1 : kd = 1
          · subst k1
            as_aux_lemma =>
              go_wp2_with fail
              have HO0 : Hid (wa.drew.heap[gb]? = _) := HBO.out
              have SD : Hid (Sp w wa.drew M1 R1 n) := SA.out.same (Below.refl _ _).drew
              go_region_held3 (fun V => (V.cell? ⟨gb, 1, none⟩ = some (.int .u32 (q : Int)) ∧ V.cell? ⟨gb, 4, none⟩ = some (.slice xa xl xc)) ∧ gb < V.heap.size)
                (first | exact ⟨⟨cell_row HO6.out rfl, cell_row HO6.out rfl⟩, heap_lt HO6.out⟩ | exact ⟨⟨cell_row HO5.out rfl, cell_row HO5.out rfl⟩, heap_lt HO5.out⟩ | exact ⟨⟨cell_row HO0.out rfl, cell_row HO0.out rfl⟩, heap_lt HO0.out⟩)
                (first
                  | (have _tok := HO5; go_at_call 14; (with_reducible refine (rput_p w R.g n R1 RR.out SP5.out.rn q xa xl xc X w5 SP5.out.r hq hxm.out hXX.out hXl.out SP5.out.B SP5.out.lor).mono ?_); rintro e w6 ⟨rfl, hm6, ho6⟩; have SP6 := Lib.hid (SP5.out.rs hm6 ho6); have HO6 : Hid (w6.heap[gb]? = _) := (ho6.block gb (heap_lt HO5.out) RN.out).trans HO5.out; clear hm6 ho6)
                  | (go_at_call 13; (with_reducible refine (put_p w M1.g n M1 rfl SD.out.mn q xa xl xc X wa.drew SD.out.m hq hxm.out hXX.out hXl.out SD.out.B SD.out.lom).mono ?_); rintro e w5 ⟨rfl, hm5, ho5⟩; have SP5 := Lib.hid (SD.out.ms hm5 ho5); have HO5 : Hid (w5.heap[gb]? = _) := (ho5.block gb (heap_lt HO0.out) FN.out).trans HO0.out; clear hm5 ho5))
              have AG6 := Lib.hid (AG.out.put (at_ := q) (k := partM n q xl) (X := X))
              obtain ⟨M2, hM2⟩ : ∃ x, x = M1.put q (partM n q xl) X := ⟨_, rfl⟩
              obtain ⟨R2, hR2⟩ : ∃ x, x = R1.put q (partM n q xl) X := ⟨_, rfl⟩
              rw [← hM2, ← hR2] at SP6 AG6
              have G2 : Hid (M2.g = M1.g) := by show _ = _; rw [hM2]; rfl
              have RR2 : Hid (R2.g = R.g) := by show _ = _; rw [hR2]; exact RR.out
              have T1 : (partE n q xl == partE n q xl) = true := by simp
              have T2 : (partE n q xl != partE n q xl) = false := by simp
              generalize partE n q xl = E at *
              clear SP5 SA SD HO0 HO5 HO6 HBO FN RN hM2 hR2
              go_wp2_with fail
              go_meet
              case rel => exact ⟨M2, R2, by rw [G2.out], rfl, RR2.out, SP6.out, AG6.out⟩
          by_cases k2 : kd = 2
          · subst k2
            as_aux_lemma =>
              have a1 : wa.cell? ⟨gb, 1, none⟩ = some (.int .u32 (q : Int)) := cell_row HBO.out rfl
              have a2 : wa.cell? ⟨gb, 2, none⟩ = some (.int .u32 (nv : Int)) := cell_row HBO.out rfl
              have a3 : gb < wa.heap.size := heap_lt HBO.out
              go_wp2_with fail
              clear a1 a2 a3
              refine (get_p M1.g n M1 rfl SA.out.mn q nv wa SA.out.m hq hnv).mono ?_
              rintro e w5 ⟨va, vc, rfl, hs, hb⟩
              have SP5 := Lib.hid (SA.out.same hb)
              have HO5 : Hid (w5.heap[gb]? = _) := (hb.block gb (heap_lt HBO.out)).trans HBO.out
              have HS5 := Lib.hid hs
              have b1 : w5.cell? ⟨gb, 1, none⟩ = some (.int .u32 (q : Int)) := cell_row HO5.out rfl
              have b2 : w5.cell? ⟨gb, 2, none⟩ = some (.int .u32 (nv : Int)) := cell_row HO5.out rfl
              have b3 : gb < w5.heap.size := heap_lt HO5.out
              clear hs hb
              go_wp2_with fail
              refine (rget_p R.g n R1 RR.out SP5.out.rn q nv w5 SP5.out.r hq hnv).mono ?_
              rintro e w6 ⟨ua, uc, rfl, hs, hb⟩
              have SP6 := Lib.hid (SP5.out.same hb)
              have HS6 := Lib.hid (HS5.out.below hb)
              have HU6 := Lib.hid hs
              clear hs hb b1 b2 b3
              obtain ⟨S, hS⟩ : ∃ x, x = strB (fun i => M1.B (q + i)) (partM n q nv) := ⟨_, rfl⟩
              have k1 : (convert 35 9 (.slice va (partM n q nv) vc)).run Try.prog w6 = .ok (.string S) w6 := by rw [hS]; exact str_at vc HS6.out
              have k2 : (convert 35 9 (.slice ua (partM n q nv) uc)).run Try.prog w6 = .ok (.string S) w6 := by rw [hS, ← AG.out.str partM_fit]; exact str_at uc HU6.out
              have T1 : (partE n q nv == partE n q nv) = true := by simp
              have T2 : (partE n q nv != partE n q nv) = false := by simp
              generalize partE n q nv = E at *
              clear SP5 HS5 HS6 HU6 HO5 SA HBO FN RN hS
              generalize partM n q nv = m at *
              go_wp2_with fail
              clear k1 k2
              obtain ⟨M2, e2⟩ : ∃ x, x = M1 := ⟨_, rfl⟩
              have G2 : Hid (M2.g = M1.g) := by rw [e2]; exact rfl
              have SP7 : Hid (Sp w w6 M2 R1 n) := by rw [e2]; exact SP6.out
              have AG7 : Hid (Ag n M2 R1) := by rw [e2]; exact AG.out
              clear SP6 e2
              go_meet
              case rel => exact ⟨M2, R1, by rw [G2.out], rfl, RR.out, SP7.out, AG7.out⟩
          by_cases k3 : kd = 3
          · subst k3
            as_aux_lemma =>
              have a1 : wa.cell? ⟨gb, 1, none⟩ = some (.int .u32 (q : Int)) := cell_row HBO.out rfl
              have a2 : wa.cell? ⟨gb, 2, none⟩ = some (.int .u32 (nv : Int)) := cell_row HBO.out rfl
              have a3 : gb < wa.heap.size := heap_lt HBO.out
              go_wp2_with fail
              clear a1 a2 a3
              obtain ⟨X1, hX1⟩ : ∃ x, leN M1.B q (mayM n L ll q (nv % 256) 1) = x := ⟨_, rfl⟩
              have hX2 : leN R1.B q (mayM n L ll q (nv % 256) 1) = X1 := (AG.out.le mayM_fit).trans hX1
              have HX1 := Lib.hid hX1; have HX2 := Lib.hid hX2
              clear hX1 hX2
              refine (load_p M1.g n M1 rfl SA.out.mn la ll lc L q (nv % 256) ((nv : Int) % 256) (by omega) wa SA.out.m (HL.out.below SA.out.B) hll hq (by omega) X1 HX1.out).mono ?_
              rintro e w5 ⟨rfl, hb⟩
              have SP5 := Lib.hid (SA.out.same hb)
              have HO5 : Hid (w5.heap[gb]? = _) := (hb.block gb (heap_lt HBO.out)).trans HBO.out
              have b1 : w5.cell? ⟨gb, 1, none⟩ = some (.int .u32 (q : Int)) := cell_row HO5.out rfl
              have b2 : w5.cell? ⟨gb, 2, none⟩ = some (.int .u32 (nv : Int)) := cell_row HO5.out rfl
              have b3 : gb < w5.heap.size := heap_lt HO5.out
              clear hb
              go_wp2_with fail
              refine (rload_p R.g n R1 RR.out SP5.out.rn la ll lc L q (nv % 256) ((nv : Int) % 256) (by omega) w5 SP5.out.r (HL.out.below SP5.out.B) hll hq (by omega) X1 HX2.out).mono ?_
              rintro e w6 ⟨rfl, hb⟩
              have SP6 := Lib.hid (SP5.out.same hb)
              clear hb b1 b2 b3
              have T1 : (mayE n L ll q (nv % 256) 1 == mayE n L ll q (nv % 256) 1) = true := by simp
              have T2 : (mayE n L ll q (nv % 256) 1 != mayE n L ll q (nv % 256) 1) = false := by simp
              generalize mayE n L ll q (nv % 256) 1 = E at *
              clear SP5 HO5 SA HBO FN RN HX1 HX2
              go_wp2_with fail
              obtain ⟨M2, e2⟩ : ∃ x, x = M1 := ⟨_, rfl⟩
              have G2 : Hid (M2.g = M1.g) := by rw [e2]; exact rfl
              have SP7 : Hid (Sp w w6 M2 R1 n) := by rw [e2]; exact SP6.out
              have AG7 : Hid (Ag n M2 R1) := by rw [e2]; exact AG.out
              clear SP6 e2
              go_meet
              case rel => exact ⟨M2, R1, by rw [G2.out], rfl, RR.out, SP7.out, AG7.out⟩
          by_cases k4 : kd = 4
          · subst k4
            as_aux_lemma =>
              go_wp2_with fail
              have HO0 : Hid (wa.drew.heap[gb]? = _) := HBO.out
              have SD : Hid (Sp w wa.drew M1 R1 n) := SA.out.same (Below.refl _ _).drew
              have hk8 : nv % 256 < 256 := by omega
              have hkv : IntKind.u8.wrap (nv : Int) = ((nv % 256 : Nat) : Int) := by rw [IntKind.wrap_u8]; omega
              have HKV := Lib.hid hkv
              clear hkv
              go_region_held3 (fun V => (V.cell? ⟨gb, 1, none⟩ = some (.int .u32 (q : Int)) ∧ V.cell? ⟨gb, 2, none⟩ = some (.int .u32 (nv : Int)) ∧ V.cell? ⟨gb, 3, none⟩ = some (.int .u32 (xx : Int))) ∧ gb < V.heap.size)
                (first | exact ⟨⟨cell_row HO6.out rfl, cell_row HO6.out rfl, cell_row HO6.out rfl⟩, heap_lt HO6.out⟩ | exact ⟨⟨cell_row HO5.out rfl, cell_row HO5.out rfl, cell_row HO5.out rfl⟩, heap_lt HO5.out⟩ | exact ⟨⟨cell_row HO0.out rfl, cell_row HO0.out rfl, cell_row HO0.out rfl⟩, heap_lt HO0.out⟩)
                (first
                  | (have _tok := HO5; go_at_call 20; (with_reducible refine (rstore_p R.g n R1 RR.out SP5.out.rn la ll lc L q (nv % 256) xx (IntKind.u8.wrap (nv : Int)) HKV.out w5 SP5.out.r (HL.out.below SP5.out.B) hll hq hk8 hxx).mono ?_); rintro e w6 ⟨rfl, hm6, ho6⟩; have SP6 := Lib.hid (SP5.out.rs hm6 ho6); have HO6 : Hid (w6.heap[gb]? = _) := (ho6.block gb (heap_lt HO5.out) RN.out).trans HO5.out; clear hm6 ho6)
                  | (go_at_call 19; (with_reducible refine (store_p M1.g n M1 rfl SD.out.mn la ll lc L q (nv % 256) xx (IntKind.u8.wrap (nv : Int)) HKV.out wa.drew SD.out.m (HL.out.below SD.out.B) hll hq hk8 hxx).mono ?_); rintro e w5 ⟨rfl, hm5, ho5⟩; have SP5 := Lib.hid (SD.out.ms hm5 ho5); have HO5 : Hid (w5.heap[gb]? = _) := (ho5.block gb (heap_lt HO0.out) FN.out).trans HO0.out; clear hm5 ho5))
              have AG6 := Lib.hid (AG.out.put (at_ := q) (k := mayM n L ll q (nv % 256) 2) (X := stB xx))
              obtain ⟨M2, hM2⟩ : ∃ x, x = M1.put q (mayM n L ll q (nv % 256) 2) (stB xx) := ⟨_, rfl⟩
              obtain ⟨R2, hR2⟩ : ∃ x, x = R1.put q (mayM n L ll q (nv % 256) 2) (stB xx) := ⟨_, rfl⟩
              rw [← hM2, ← hR2] at SP6 AG6
              have G2 : Hid (M2.g = M1.g) := by show _ = _; rw [hM2]; rfl
              have RR2 : Hid (R2.g = R.g) := by show _ = _; rw [hR2]; exact RR.out
              have T1 : (mayE n L ll q (nv % 256) 2 == mayE n L ll q (nv % 256) 2) = true := by simp
              have T2 : (mayE n L ll q (nv % 256) 2 != mayE n L ll q (nv % 256) 2) = false := by simp
              generalize mayE n L ll q (nv % 256) 2 = E at *
              clear SP5 SA SD HO0 HO5 HO6 HBO FN RN hM2 hR2
              go_wp2_with fail
              go_meet
              case rel => exact ⟨M2, R2, by rw [G2.out], rfl, RR2.out, SP6.out, AG6.out⟩
          by_cases k5 : kd = 5
          · subst k5
            as_aux_lemma =>
              have a1 : wa.cell? ⟨gb, 1, none⟩ = some (.int .u32 (q : Int)) := cell_row HBO.out rfl
              have a2 : wa.cell? ⟨gb, 2, none⟩ = some (.int .u32 (nv : Int)) := cell_row HBO.out rfl
              have a3 : gb < wa.heap.size := heap_lt HBO.out
              go_wp2_with fail
              clear a1 a2 a3
              refine (fetch_p M1.g n M1 rfl SA.out.mn la ll lc L q wa SA.out.m (HL.out.below SA.out.B) hll hq).mono ?_
              rintro e w5 ⟨va, vc, rfl, hs, hb⟩
              have SP5 := Lib.hid (SA.out.same hb)
              have HO5 : Hid (w5.heap[gb]? = _) := (hb.block gb (heap_lt HBO.out)).trans HBO.out
              have HS5 := Lib.hid hs
              have b1 : w5.cell? ⟨gb, 1, none⟩ = some (.int .u32 (q : Int)) := cell_row HO5.out rfl
              have b3 : gb < w5.heap.size := heap_lt HO5.out
              clear hs hb
              go_wp2_with fail
              refine (rfetch_p R.g n R1 RR.out SP5.out.rn la ll lc L q w5 SP5.out.r (HL.out.below SP5.out.B) hll hq).mono ?_
              rintro e w6 ⟨ua, uc, rfl, hs, hb⟩
              have SP6 := Lib.hid (SP5.out.same hb)
              have HS6 := Lib.hid (HS5.out.below hb)
              have HU6 := Lib.hid hs
              clear hs hb b1 b3
              obtain ⟨S, hS⟩ : ∃ x, x = strB (fun i => M1.B (q + i)) (mayM n L ll q 8 4) := ⟨_, rfl⟩
              have k1 : (convert 35 9 (.slice va (mayM n L ll q 8 4) vc)).run Try.prog w6 = .ok (.string S) w6 := by rw [hS]; exact str_at vc HS6.out
              have k2 : (convert 35 9 (.slice ua (mayM n L ll q 8 4) uc)).run Try.prog w6 = .ok (.string S) w6 := by rw [hS, ← AG.out.str mayM_fit]; exact str_at uc HU6.out
              have T1 : (mayE n L ll q 8 4 == mayE n L ll q 8 4) = true := by simp
              have T2 : (mayE n L ll q 8 4 != mayE n L ll q 8 4) = false := by simp
              generalize mayE n L ll q 8 4 = E at *
              clear SP5 HS5 HS6 HU6 HO5 SA HBO FN RN hS
              generalize mayM n L ll q 8 4 = m at *
              go_wp2_with fail
              clear k1 k2
              obtain ⟨M2, e2⟩ : ∃ x, x = M1 := ⟨_, rfl⟩
              have G2 : Hid (M2.g = M1.g) := by rw [e2]; exact rfl
              have SP7 : Hid (Sp w w6 M2 R1 n) := by rw [e2]; exact SP6.out
              have AG7 : Hid (Ag n M2 R1) := by rw [e2]; exact AG.out
              clear SP6 e2
              go_meet
              case rel => exact ⟨M2, R1, by rw [G2.out], rfl, RR.out, SP7.out, AG7.out⟩
          by_cases k6 : kd = 6
          · subst k6
            as_aux_lemma =>
              go_wp2_with fail
              refine (copy_any M1 wa SA.out.m).mono ?_
              rintro e w5 ⟨M2, rfl, hN⟩
              have N2 := Lib.hid hN
              have SP5 := Lib.hid (SA.out.cp hN)
              have AG5 : Hid (Ag n M2 R1) := fun i hi => by rw [hN.eB]; exact AG.out i hi
              have OM : Hid (MemAt w5 57 M1) := SA.out.m.below hN.below
              clear hN
              go_wp2_with fail
              refine (zeroall_p M1.g n M1 rfl SA.out.mn w5 OM.out hn32).mono ?_
              rintro e w6 ⟨⟨E, rfl⟩, ho⟩
              have SP6 := Lib.hid (SA.out.old N2.out SP5.out ho)
              obtain ⟨g2, hg2⟩ : ∃ x, x = M2.g := ⟨_, rfl⟩
              rw [← hg2]
              have G2 : Hid (M2.g = g2) := hg2.symm
              clear ho SP5 SA OM N2 HBO FN RN hg2
              go_wp2_with fail
              go_meet
              case rel => exact ⟨M2, R1, by rw [G2.out], rfl, RR.out, SP6.out, AG5.out⟩
          have z0 : (kd == 0) = false := by simpa using k0
          have z1 : (kd == 1) = false := by simpa using k1
          have z2 : (kd == 2) = false := by simpa using k2
          have z3 : (kd == 3) = false := by simpa using k3
          have z4 : (kd == 4) = false := by simpa using k4
          have z5 : (kd == 5) = false := by simpa using k5
          have z6 : (kd == 6) = false := by simpa using k6
          clear k0 k1 k2 k3 k4 k5 k6
          go_wp2_with fail
          obtain ⟨M2, e2⟩ : ∃ x, x = M1 := ⟨_, rfl⟩
          have G2 : Hid (M2.g = M1.g) := by rw [e2]; exact rfl
          have SP7 : Hid (Sp w wa M2 R1 n) := by rw [e2]; exact SA.out
          have AG7 : Hid (Ag n M2 R1) := by rw [e2]; exact AG.out
          clear SA HBO FN RN e2
          go_meet
          case rel => exact ⟨M2, R1, by rw [G2.out], rfl, RR.out, SP7.out, AG7.out⟩
      · obtain rfl : bl = k := by omega
        go_wp2_with fail
        go_ret
        exact ⟨rfl, SP.out.B⟩
end Go.Proofs.Ytfochgpjpngnlaa
