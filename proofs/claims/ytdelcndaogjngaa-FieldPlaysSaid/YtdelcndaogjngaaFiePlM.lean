/- The walk of FieldPlays. -/
import Derived.Test.YtdelcndaogjngaaFiePl2
import Derived.Deep.RegionHeld3
namespace Go.Proofs.Ytdelcndaogjngaa
open Go.RowKit
set_option linter.unusedVariables false
def Bx (d : DoR) : Obj := .cells #[.int .i64 d.kind, .int .i64 d.part, .int .i64 d.n, .int .u32 (d.x : Int), .slice d.la d.ll d.lc] 38
set_option maxHeartbeats 2000000 in
set_option maxRecDepth 100000 in
theorem plays_big (nI : Int) (a : Option Addr) (len cap rd : Nat) (wt : Int) (bv : Value) (w : World) (hm : len ≤ 9223372036854775807) (h : 1000 < len) :
    Calls Try.prog 3 #[.agg #[.int .i64 nI, .slice a len cap, .int .u32 (rd : Int), .int .i64 wt], bv] w fun e w' => e = .returned (.bool true) ∧ Below w.heap.size w w' := by
  have t1 : decide (1000 < (len : Int)) = true := by simp; omega
  have HBX : Hid ((w.alloc (.cells #[.int .i64 nI, .slice a len cap, .int .u32 (rd : Int), .int .i64 wt] 25)).heap[w.heap.size]? = some (.cells #[.int .i64 nI, .slice a len cap, .int .u32 (rd : Int), .int .i64 wt] 25 (0, 0))) := heap_alloc_new _ _
  have HB0 : Hid (Below w.heap.size w (w.alloc (.cells #[.int .i64 nI, .slice a len cap, .int .u32 (rd : Int), .int .i64 wt] 25))) := alloc_below _ _
  go_enter Try.func3, Try.ntmps3
  go_wp2_with fail
  generalize w.alloc (.cells #[.int .i64 nI, .slice a len cap, .int .u32 (rd : Int), .int .i64 wt] 25) = w0 at *
  generalize hgd : w.heap.size = gd at *
  have HG := Lib.hid hgd
  clear hgd
  have HD : Hid (gd < w0.heap.size) := heap_lt HBX.out
  have DC : Hid (∀ W, Below w0.heap.size w0 W → (W.cell? ⟨gd, 0, none⟩ = some (.int .i64 nI) ∧ W.cell? ⟨gd, 1, none⟩ = some (.slice a len cap) ∧ W.cell? ⟨gd, 2, none⟩ = some (.int .u32 (rd : Int)) ∧ W.cell? ⟨gd, 3, none⟩ = some (.int .i64 wt)) ∧ gd < W.heap.size) := fun W h => by
    have h1 := (h.block _ HD.out).trans HBX.out
    exact ⟨⟨cell_row h1 rfl, cell_row h1 rfl, cell_row h1 rfl, cell_row h1 rfl⟩, heap_lt h1⟩
  refine (known_any _).mono ?_
  rintro e w1 ⟨rfl, hb⟩
  have B1 := Lib.hid hb
  clear hb
  obtain ⟨⟨d0, d1, d2, d3⟩, dl⟩ := DC.out _ B1.out
  go_wp2_with fail
  go_ret
  refine ⟨rfl, ?_⟩
  first | exact HB0.out.trans ((B1.out).mono (Nat.le_of_lt HD.out)) | (rw [HG.out]; exact HB0.out.trans ((B1.out).mono (Nat.le_of_lt HD.out)))
set_option maxHeartbeats 16000000 in
set_option maxRecDepth 100000 in
theorem plays_any (nI : Int) (a : Option Addr) (len cap rd : Nat) (wt : Int) (S : Nat → Nat) (ba : Option Addr) (bl bc : Nat) (B : Nat → DoR) (w : World)
    (hlen : ¬ 1000 < len) (hS : SliceAt w a len (uV S)) (hSl : ∀ i, S i < 4294967296) (hB : DosAt w ba bl B) (hbl : bl ≤ 9223372036854775807) :
    Calls Try.prog 3 #[.agg #[.int .i64 nI, .slice a len cap, .int .u32 (rd : Int), .int .i64 wt], .slice ba bl bc] w fun e w' => e = .returned (.bool true) ∧ Below w.heap.size w w' := by
  have t1 : decide (1000 < (len : Int)) = false := by simp; omega
  have HS : Hid (SliceAt (w.alloc (.cells #[.int .i64 nI, .slice a len cap, .int .u32 (rd : Int), .int .i64 wt] 25)) a len (uV S)) := hS.below (alloc_below _ _)
  have HB : Hid (DosAt (w.alloc (.cells #[.int .i64 nI, .slice a len cap, .int .u32 (rd : Int), .int .i64 wt] 25)) ba bl B) := hB.below (alloc_below _ _)
  have HSl := Lib.hid hSl
  clear hS hB hSl
  have HBX : Hid ((w.alloc (.cells #[.int .i64 nI, .slice a len cap, .int .u32 (rd : Int), .int .i64 wt] 25)).heap[w.heap.size]? = some (.cells #[.int .i64 nI, .slice a len cap, .int .u32 (rd : Int), .int .i64 wt] 25 (0, 0))) := heap_alloc_new _ _
  have HB0 : Hid (Below w.heap.size w (w.alloc (.cells #[.int .i64 nI, .slice a len cap, .int .u32 (rd : Int), .int .i64 wt] 25))) := alloc_below _ _
  go_enter Try.func3, Try.ntmps3
  go_wp2_with fail
  generalize w.alloc (.cells #[.int .i64 nI, .slice a len cap, .int .u32 (rd : Int), .int .i64 wt] 25) = w0 at *
  generalize hgd : w.heap.size = gd at *
  have HG := Lib.hid hgd
  clear hgd
  have HD : Hid (gd < w0.heap.size) := heap_lt HBX.out
  have DC : Hid (∀ W, Below w0.heap.size w0 W → (W.cell? ⟨gd, 0, none⟩ = some (.int .i64 nI) ∧ W.cell? ⟨gd, 1, none⟩ = some (.slice a len cap) ∧ W.cell? ⟨gd, 2, none⟩ = some (.int .u32 (rd : Int)) ∧ W.cell? ⟨gd, 3, none⟩ = some (.int .i64 wt)) ∧ gd < W.heap.size) := fun W h => by
    have h1 := (h.block _ HD.out).trans HBX.out
    exact ⟨⟨cell_row h1 rfl, cell_row h1 rfl, cell_row h1 rfl, cell_row h1 rfl⟩, heap_lt h1⟩
  refine (known_any _).mono ?_
  rintro e w1 ⟨rfl, hb⟩
  have B1 := Lib.hid hb
  clear hb
  have c1 := DC.out _ B1.out
  obtain ⟨⟨d0, d1, d2, d3⟩, dl⟩ := c1
  go_wp2_with fail
  refine (heavy_any ba bl bc B _ hbl (HB.out.below B1.out)).mono ?_
  rintro e w2 ⟨⟨b, rfl, hb⟩, hw⟩
  have B2 : Hid (Below w0.heap.size w0 w2) := B1.out.trans (hw.mono B1.out.size)
  have LB := Lib.hid hb
  clear hb hw
  cases b
  case true =>
    go_wp2_with fail
    go_ret
    refine ⟨rfl, ?_⟩
    first | exact HB0.out.trans ((B2.out).mono (Nat.le_of_lt HD.out)) | (rw [HG.out]; exact HB0.out.trans ((B2.out).mono (Nat.le_of_lt HD.out)))
  have HL : Hid (bl ≤ 500) := (LB.out rfl).1
  clear d0 d1 d2 d3 dl t1 LB
  obtain ⟨⟨d0, d1, d2, d3⟩, dl⟩ := DC.out _ B2.out
  go_wp2_with fail
  by_cases hmay : mayD nI len rd wt
  case neg =>
    refine (new_bad nI a len cap rd wt _ hmay).mono ?_
    rintro e w4 ⟨rfl, hw⟩
    have B4 : Hid (Below w0.heap.size w0 w4) := B2.out.trans (hw.mono B2.out.size)
    clear hw d0 d1 d2 d3 dl
    obtain ⟨⟨d0, d1, d2, d3⟩, dl⟩ := DC.out _ B4.out
    go_wp2_with fail
    refine (may_bad nI a len cap rd wt _ hmay).mono ?_
    rintro e w5 ⟨rfl, hw⟩
    have B5 : Hid (Below w0.heap.size w0 w5) := B4.out.trans (hw.mono B4.out.size)
    clear hw d0 d1 d2 d3 dl
    obtain ⟨⟨d0, d1, d2, d3⟩, dl⟩ := DC.out _ B5.out
    go_wp2_with fail
    refine (check_bad nI a len cap rd wt _ hmay).mono ?_
    rintro e w6 ⟨rfl, hw⟩
    have B6 : Hid (Below w0.heap.size w0 w6) := B5.out.trans (hw.mono B5.out.size)
    clear hw d0 d1 d2 d3 dl
    go_wp2_with fail
    go_ret
    refine ⟨rfl, ?_⟩
    first | exact HB0.out.trans ((B6.out).mono (Nat.le_of_lt HD.out)) | (rw [HG.out]; exact HB0.out.trans ((B6.out).mono (Nat.le_of_lt HD.out)))
  obtain ⟨ni, rfl⟩ := Int.eq_ofNat_of_zero_le hmay.1
  refine (new_ok ni a len cap rd wt S _ hmay (HS.out.below B2.out) HSl.out).mono ?_
  rintro e w4 ⟨f, rfl, hf, hn, hw⟩
  have B4 : Hid (Below w0.heap.size w0 w4) := B2.out.trans (hw.mono B2.out.size)
  have F4 := Lib.hid hf
  have N := Lib.hid hn
  have HLO : Hid (w0.heap.size ≤ f.lo) := Nat.le_trans B2.out.size hn.lo
  clear hf hn hw d0 d1 d2 d3 dl
  obtain ⟨⟨d0, d1, d2, d3⟩, dl⟩ := DC.out _ B4.out
  go_wp2_with fail
  refine (may_ok ni a len cap rd wt _ hmay).mono ?_
  rintro e w5 ⟨rfl, hw⟩
  have B5 : Hid (Below w0.heap.size w0 w5) := B4.out.trans (hw.mono B4.out.size)
  have F5 : Hid (FieldAt w5 f) := F4.out.below hw
  clear hw d0 d1 d2 d3 dl
  obtain ⟨⟨d0, d1, d2, d3⟩, dl⟩ := DC.out _ B5.out
  go_wp2_with fail
  refine (check_ok ni a len cap rd wt _ hmay).mono ?_
  rintro e w6 ⟨rfl, hw⟩
  have B6 : Hid (Below w0.heap.size w0 w6) := B5.out.trans (hw.mono B5.out.size)
  have F6 : Hid (FieldAt w6 f) := F5.out.below hw
  clear hw d0 d1 d2 d3 dl F4 F5
  obtain ⟨⟨d0, d1, d2, d3⟩, dl⟩ := DC.out _ B6.out
  go_wp2_with fail
  refine (ref_new ni a len cap rd wt S _ hmay (HS.out.below B6.out) HSl.out).mono ?_
  rintro e w7 ⟨R, rfl, hr, hn, hw⟩
  have SP7 : Hid (Sp w0 w7 f R ni len rd wt a S) := by
    have f6 := F6.out.hi
    have fg := F6.out.ok.g
    have n := N.out
    have rl := hr.lo
    have hlo := hn.lo
    have hM : ∀ b, w6.heap.size ≤ b → ¬ f.M b := fun b hb hm => by have h1 := hm.2; omega
    refine ⟨F6.out.below hw, hr, n.nI, n.nS, n.rd, n.wr, n.safe, hn.nI, hn.nS, hn.rd, hn.wt, hn.safe, hn.sa, fun hz b off e => ?_, ⟨HLO.out, Nat.le_trans B6.out.size hlo⟩, hM _ (by omega), hM _ (by omega), hM _ (by omega), fun hp => absurd hn.puts hp, fun hz => ?_, B6.out.trans (hw.mono B6.out.size)⟩
    · obtain ⟨b', off', e', hlt, _⟩ := HS.out.at hz
      rw [e] at e'; cases e'; exact hlt
    · have hb := n.bs hz
      exact ⟨hb.2, by omega, by omega, fun hp => absurd hn.puts hp⟩
  have AG7 : Hid (Ag len S f R 0) := ⟨N.out.ins.trans hn.ins.symm, fun i _ => by rw [N.out.outs, hn.outs], fun j => by
    rw [hn.puts]
    unfold FS.done
    rw [N.out.has, N.out.safe]; rfl, by rw [hn.puts]; exact Nat.zero_le _⟩
  clear hr hn hw F6 N HLO B1 B2 B4 B5 B6 hmay d0 d1 d2 d3 dl
  go_wp2_with fail
  go_loopw [5, 59] (fun v i wr => ∃ k : Nat, ∃ f1 : FS, ∃ R1 : RS, k ≤ bl ∧ i = .int .i64 k ∧ v = .pointer (some ⟨f1.g, 0, none⟩) ∧ R1.r = R.r ∧ Sp w0 wr f1 R1 ni len rd wt a S ∧ Ag len S f1 R1 k) (fun _ i _ => bl - (intOf i).toNat)
  case atStart => exact ⟨0, f, R, Nat.zero_le _, rfl, rfl, rfl, SP7.out, AG7.out⟩
  case round =>
    clear SP7 AG7
    obtain ⟨k, f1, R1, hk, rfl, rfl, hR1, hsp, hag⟩ := hrel
    have SP := Lib.hid hsp; have AG := Lib.hid hag; have RR := Lib.hid hR1
    clear hsp hag hR1
    by_cases hlt : k < bl
    · skip
      obtain ⟨sb, soff, rfl, hsl, hcells⟩ := HB.out.1.at (by omega)
      have x0 : wr.cell? ⟨sb, soff + k * 5, none⟩ = some (.int .i64 (B k).kind) := by rw [SP.out.B.cell hsl]; exact hcells k hlt 0 (by omega)
      have x1 : wr.cell? ⟨sb, soff + k * 5 + 1, none⟩ = some (.int .i64 (B k).part) := by rw [SP.out.B.cell hsl]; exact hcells k hlt 1 (by omega)
      have x2 : wr.cell? ⟨sb, soff + k * 5 + 2, none⟩ = some (.int .i64 (B k).n) := by rw [SP.out.B.cell hsl]; exact hcells k hlt 2 (by omega)
      have x3 : wr.cell? ⟨sb, soff + k * 5 + 3, none⟩ = some (.int .u32 ((B k).x : Int)) := by rw [SP.out.B.cell hsl]; exact hcells k hlt 3 (by omega)
      have x4 : wr.cell? ⟨sb, soff + k * 5 + 4, none⟩ = some (.slice (B k).la (B k).ll (B k).lc) := by rw [SP.out.B.cell hsl]; exact hcells k hlt 4 (by omega)
      clear hcells
      have hxx := Lib.hid (HB.out.2 k).x
      have hqq := Lib.hid (HB.out.2 k).part
      have hnn := Lib.hid (HB.out.2 k).n
      have hLL : Hid (SliceAt w0 (B k).la (B k).ll (uV (B k).L)) := (HB.out.2 k).L
      have hLX : Hid (∀ i, (B k).L i < 4294967296) := (HB.out.2 k).lt
      have hLm : Hid ((B k).ll ≤ 9223372036854775807) := by have h1 := (HB.out.2 k).cap; have h2 := (HB.out.2 k).max; unfold maxLen at h2; show _ ≤ _; omega
      generalize (B k).kind = kd at *
      generalize (B k).part = q at *
      generalize (B k).n = nv at *
      generalize (B k).x = xx at *
      generalize (B k).la = la at *
      generalize (B k).ll = ll at *
      generalize (B k).lc = lc at *
      generalize (B k).L = L at *
      have HBN : Hid (Below wr.heap.size wr (wr.alloc (.cells #[.int .i64 kd, .int .i64 q, .int .i64 nv, .int .u32 (xx : Int), .slice la ll lc] 38))) := alloc_below _ _
      have HBO : Hid ((wr.alloc (.cells #[.int .i64 kd, .int .i64 q, .int .i64 nv, .int .u32 (xx : Int), .slice la ll lc] 38)).heap[wr.heap.size]? = some (.cells #[.int .i64 kd, .int .i64 q, .int .i64 nv, .int .u32 (xx : Int), .slice la ll lc] 38 (0, 0))) := heap_alloc_new _ _
      have hbs : Hid (0 < f1.nS → f1.bs < wr.heap.size + 1) := fun hz => by
        have h1 := (SP.out.bs (by rw [← SP.out.fS]; exact hz)).1
        have h2 := SP.out.cF.hi; have h3 := SP.out.cF.ok.g
        omega
      have hpl : Hid (R1.puts.length < 500) := by have h1 := AG.out.n; have h2 := HL.out; show _ < _; omega
      have SA : Hid (Sp w0 (wr.alloc (.cells #[.int .i64 kd, .int .i64 q, .int .i64 nv, .int .u32 (xx : Int), .slice la ll lc] 38)) f1 R1 ni len rd wt a S) := SP.out.same HBN.out
      have FN : Hid (¬ f1.M wr.heap.size) := SP.out.f_new (Nat.le_refl _)
      have RN : Hid (¬ R1.M wr.heap.size) := SP.out.r_new (Nat.le_refl _)
      have hsz : Hid ((wr.alloc (.cells #[.int .i64 kd, .int .i64 q, .int .i64 nv, .int .u32 (xx : Int), .slice la ll lc] 38)).heap.size = wr.heap.size + 1) := by show _ = _; simp
      have HWR : Hid (wr.heap.size ≤ wr.heap.size) := Nat.le_refl _
      by_cases k0 : kd = 0
      · subst k0
        go_wp2_with fail
        generalize wr.alloc (.cells #[.int .i64 0, .int .i64 q, .int .i64 nv, .int .u32 (xx : Int), .slice la ll lc] 38) = wa at *
        generalize hgb : wr.heap.size = gb at *
        clear hgb x0 x1 x2 x3 x4
        have HO0 : Hid (wa.drew.heap[gb]? = _) := HBO.out
        have SD : Hid (Sp w0 wa.drew f1 R1 ni len rd wt a S) := SA.out.same (Below.refl _ _).drew
        go_region_held3 (fun V => V.cell? ⟨gb, 4, none⟩ = some (.slice la ll lc) ∧ gb < V.heap.size)
          (first | exact ⟨cell_row HO6.out rfl, heap_lt HO6.out⟩ | exact ⟨cell_row HO5.out rfl, heap_lt HO5.out⟩ | exact ⟨cell_row HO0.out rfl, heap_lt HO0.out⟩)
          (first
            | (have _tok := HO5; go_at_call 12; (with_reducible refine (ref_latch_all R.r R1 RR.out ni SP5.out.rI la ll lc L w5 SP5.out.cR hLm.out (hLL.out.below SP5.out.B)).mono ?_); rintro e w6 ⟨rfl, ⟨R2, hr2, hl2, hx2⟩, ho2⟩; have SP6 := Lib.hid (SP5.out.rs hr2 ho2 hl2); have AG6 := Lib.hid (AG.out.latch_all hx2 SA.out.fsafe); have RR2 : Hid (R2.r = R.r) := hl2.r.trans RR.out; have HO6 : Hid (w6.heap[gb]? = _) := (ho2.block gb (heap_lt HO5.out) RN.out).trans HO5.out; clear hr2 hl2 hx2 ho2)
            | (go_at_call 11; (with_reducible refine (latch_all f1.g f1 rfl ni SD.out.fI la ll lc L wa.drew SD.out.cF hLm.out (hLL.out.below SD.out.B) hLX.out).mono ?_); rintro e w5 ⟨rfl, hf, ho⟩; have KL := Lib.hid (Like.latch_all f1 ll ni L); have SP5 := Lib.hid (SD.out.fs hf ho KL.out); have HO5 : Hid (w5.heap[gb]? = _) := (ho.block gb (heap_lt HO0.out) FN.out).trans HO0.out; clear hf ho))
        obtain ⟨f2, hf2⟩ : ∃ x, x = (if ll = ni then f1.latch L else f1) := ⟨_, rfl⟩
        rw [← hf2] at SP6 AG6 KL SP5
        have G2 : Hid (f2.g = f1.g) := KL.out.g
        have T1 : (latE ll ni == latE ll ni) = true := by simp
        have T2 : (latE ll ni != latE ll ni) = false := by simp
        generalize latE ll ni = E at *
        clear hf2 SP5 SA SD KL HO0 HO5 HO6 HBO HBN FN RN hsz hbs hpl
        go_wp2_with fail
        obtain ⟨ia, ic, hvi, -, -, hi3⟩ := SP6.out.cR.ins.slice
        obtain ⟨oa, oc, hvo, -, -, ho3⟩ := SP6.out.cR.outs.slice
        rw [SP6.out.rI] at hi3 hvi
        rw [SP6.out.rS] at ho3 hvo
        have HI3 := Lib.hid hi3; have HO3 := Lib.hid ho3
        have RC : Hid (∀ W, Below w6.heap.size w6 W → (W.cell? ⟨R.r, 4, none⟩ = some (.slice ia ni ic) ∧ W.cell? ⟨R.r, 5, none⟩ = some (.slice oa len oc)) ∧ R.r < W.heap.size) := fun W h => by
          have h1 := (h.block _ SP6.out.cR.hi.1).trans SP6.out.cR.obj
          rw [RR2.out] at h1
          rw [← hvi, ← hvo]
          exact ⟨⟨cell_row h1 rfl, cell_row h1 rfl⟩, heap_lt h1⟩
        have Y0 : Hid (Below w6.heap.size w6 w6.drew) := (Below.refl _ _).drew
        have hni16 : ni ≤ 1000000 := by have := SP6.out.cF.ok.nI; rw [SP6.out.fI] at this; omega
        have hle16 : len ≤ 1000000 := by have := SP6.out.cF.ok.nS; rw [SP6.out.fS] at this; omega
        clear hvi hvo hi3 ho3
        go_wp2_with fail
        go_region_held3 (fun V => (V.cell? ⟨R.r, 4, none⟩ = some (.slice ia ni ic) ∧ V.cell? ⟨R.r, 5, none⟩ = some (.slice oa len oc)) ∧ R.r < V.heap.size)
          (first | exact RC.out _ Y24.out | exact RC.out _ Y23.out | exact RC.out _ Y22.out | exact RC.out _ Y21.out | exact RC.out _ Y0.out)
          (first
            | (have _tok := Y23; go_at_call 20; (with_reducible refine (same_true a23 oa len c23 oc f2.outs R2.outs w23 hle16 S23.out (HO3.out.below Y23.out) AG6.out.outs).mono ?_); rintro e w24 ⟨rfl, hb24⟩; have Y24 : Hid (Below w6.heap.size w6 w24) := Y23.out.trans (hb24.mono Y23.out.size); clear hb24)
            | (have _tok := Y22; go_at_call 22; (with_reducible refine (outs_g f1.g f2 G2.out len f2.outs w22 (SP6.out.cF.below Y22.out) SP6.out.fS (fun _ _ => rfl)).mono ?_); rintro e w23 ⟨a23, c23, rfl, hs23, hb23⟩; have S23 := Lib.hid hs23; have Y23 : Hid (Below w6.heap.size w6 w23) := Y22.out.trans (hb23.mono Y22.out.size); clear hs23 hb23)
            | (have _tok := Y21; go_at_call 20; (with_reducible refine (same_true a21 ia ni c21 ic f2.ins R2.ins w21 hni16 S21.out (HI3.out.below Y21.out) (fun i _ => congrFun AG6.out.ins i)).mono ?_); rintro e w22 ⟨rfl, hb22⟩; have Y22 : Hid (Below w6.heap.size w6 w22) := Y21.out.trans (hb22.mono Y21.out.size); clear hb22)
            | (go_at_call 21; (with_reducible refine (ins_g f1.g f2 G2.out ni f2.ins w6.drew (SP6.out.cF.below Y0.out) SP6.out.fI (fun _ _ => rfl)).mono ?_); rintro e w21 ⟨a21, c21, rfl, hs21, hb21⟩; have S21 := Lib.hid hs21; have Y21 : Hid (Below w6.heap.size w6 w21) := Y0.out.trans hb21; clear hs21 hb21))
        go_wp2_with fail
        go_roundw
        case rel => exact ⟨k + 1, f2, _, by omega, by go_num, by rw [G2.out], RR2.out, SP6.out.same Y24.out, AG6.out⟩
        case measure => simp [intOf]; omega
      by_cases k1 : kd = 1
      · subst k1
        go_wp2_with fail
        generalize wr.alloc (.cells #[.int .i64 1, .int .i64 q, .int .i64 nv, .int .u32 (xx : Int), .slice la ll lc] 38) = wa at *
        generalize hgb : wr.heap.size = gb at *
        clear hgb x0 x1 x2 x3 x4
        refine (in_all f1.g f1 rfl q nv wa SA.out.cF hqq.out hnn.out).mono ?_
        rintro e w' ⟨rfl, rfl⟩
        have b1 : wa.cell? ⟨gb, 1, none⟩ = some (.int .i64 q) := cell_row HBO.out rfl
        have b2 : wa.cell? ⟨gb, 2, none⟩ = some (.int .i64 nv) := cell_row HBO.out rfl
        have b3 : gb < wa.heap.size := heap_lt HBO.out
        go_wp2_with fail
        refine (ref_in_g R.r R1 RR.out q nv wa SA.out.cR hnn.out).mono ?_
        rintro e w' ⟨rfl, rfl⟩
        have HX := Lib.hid (inX_eq SA.out AG.out q nv); have HE := Lib.hid (inE_eq SA.out q nv)
        rw [← HX.out, ← HE.out]
        have T1 : (inE f1 q nv == inE f1 q nv) = true := by simp
        have T2 : (inE f1 q nv != inE f1 q nv) = false := by simp
        have T3 : (((inX f1 q nv : Nat) : Int) == ((inX f1 q nv : Nat) : Int)) = true := by simp
        have T4 : (((inX f1 q nv : Nat) : Int) != ((inX f1 q nv : Nat) : Int)) = false := by simp
        clear HX HE
        generalize inE f1 q nv = E at *
        generalize inX f1 q nv = X at *
        obtain ⟨f2, e2⟩ : ∃ x, x = f1 := ⟨_, rfl⟩
        have G2 : Hid (f2.g = f1.g) := by rw [e2]; exact rfl
        have SP6 : Hid (Sp w0 wa f2 R1 ni len rd wt a S) := by rw [e2]; exact SA.out
        have AG6 : Hid (Ag len S f2 R1 (k + 1)) := by rw [e2]; exact AG.out.up
        clear HBO HBN FN RN hsz hbs hpl b1 b2 b3 SA e2
        obtain ⟨ia, ic, hvi, -, -, hi3⟩ := SP6.out.cR.ins.slice
        obtain ⟨oa, oc, hvo, -, -, ho3⟩ := SP6.out.cR.outs.slice
        rw [SP6.out.rI] at hi3 hvi
        rw [SP6.out.rS] at ho3 hvo
        have HI3 := Lib.hid hi3; have HO3 := Lib.hid ho3
        have RC : Hid (∀ W, Below wa.heap.size wa W → (W.cell? ⟨R.r, 4, none⟩ = some (.slice ia ni ic) ∧ W.cell? ⟨R.r, 5, none⟩ = some (.slice oa len oc)) ∧ R.r < W.heap.size) := fun W h => by
          have h1 := (h.block _ SP6.out.cR.hi.1).trans SP6.out.cR.obj
          rw [RR.out] at h1
          rw [← hvi, ← hvo]
          exact ⟨⟨cell_row h1 rfl, cell_row h1 rfl⟩, heap_lt h1⟩
        have Y0 : Hid (Below wa.heap.size wa wa.drew) := (Below.refl _ _).drew
        have hni16 : ni ≤ 1000000 := by have := SP6.out.cF.ok.nI; rw [SP6.out.fI] at this; omega
        have hle16 : len ≤ 1000000 := by have := SP6.out.cF.ok.nS; rw [SP6.out.fS] at this; omega
        clear hvi hvo hi3 ho3
        go_wp2_with fail
        go_region_held3 (fun V => (V.cell? ⟨R.r, 4, none⟩ = some (.slice ia ni ic) ∧ V.cell? ⟨R.r, 5, none⟩ = some (.slice oa len oc)) ∧ R.r < V.heap.size)
          (first | exact RC.out _ Y24.out | exact RC.out _ Y23.out | exact RC.out _ Y22.out | exact RC.out _ Y21.out | exact RC.out _ Y0.out)
          (first
            | (have _tok := Y23; go_at_call 20; (with_reducible refine (same_true a23 oa len c23 oc f2.outs R1.outs w23 hle16 S23.out (HO3.out.below Y23.out) AG6.out.outs).mono ?_); rintro e w24 ⟨rfl, hb24⟩; have Y24 : Hid (Below wa.heap.size wa w24) := Y23.out.trans (hb24.mono Y23.out.size); clear hb24)
            | (have _tok := Y22; go_at_call 22; (with_reducible refine (outs_g f1.g f2 G2.out len f2.outs w22 (SP6.out.cF.below Y22.out) SP6.out.fS (fun _ _ => rfl)).mono ?_); rintro e w23 ⟨a23, c23, rfl, hs23, hb23⟩; have S23 := Lib.hid hs23; have Y23 : Hid (Below wa.heap.size wa w23) := Y22.out.trans (hb23.mono Y22.out.size); clear hs23 hb23)
            | (have _tok := Y21; go_at_call 20; (with_reducible refine (same_true a21 ia ni c21 ic f2.ins R1.ins w21 hni16 S21.out (HI3.out.below Y21.out) (fun i _ => congrFun AG6.out.ins i)).mono ?_); rintro e w22 ⟨rfl, hb22⟩; have Y22 : Hid (Below wa.heap.size wa w22) := Y21.out.trans (hb22.mono Y21.out.size); clear hb22)
            | (go_at_call 21; (with_reducible refine (ins_g f1.g f2 G2.out ni f2.ins wa.drew (SP6.out.cF.below Y0.out) SP6.out.fI (fun _ _ => rfl)).mono ?_); rintro e w21 ⟨a21, c21, rfl, hs21, hb21⟩; have S21 := Lib.hid hs21; have Y21 : Hid (Below wa.heap.size wa w21) := Y0.out.trans hb21; clear hs21 hb21))
        go_wp2_with fail
        go_roundw
        case rel => exact ⟨k + 1, f2, _, by omega, by go_num, by rw [G2.out], RR.out, SP6.out.same Y24.out, AG6.out⟩
        case measure => simp [intOf]; omega
      by_cases k2 : kd = 2
      · subst k2
        go_wp2_with fail
        generalize wr.alloc (.cells #[.int .i64 2, .int .i64 q, .int .i64 nv, .int .u32 (xx : Int), .slice la ll lc] 38) = wa at *
        generalize hgb : wr.heap.size = gb at *
        clear hgb x0 x1 x2 x3 x4
        have HO0 : Hid (wa.drew.heap[gb]? = _) := HBO.out
        have SD : Hid (Sp w0 wa.drew f1 R1 ni len rd wt a S) := SA.out.same (Below.refl _ _).drew
        go_region_held3 (fun V => (V.cell? ⟨gb, 1, none⟩ = some (.int .i64 q) ∧ V.cell? ⟨gb, 2, none⟩ = some (.int .i64 nv) ∧ V.cell? ⟨gb, 3, none⟩ = some (.int .u32 (xx : Int))) ∧ gb < V.heap.size)
          (first | exact ⟨⟨cell_row HO6.out rfl, cell_row HO6.out rfl, cell_row HO6.out rfl⟩, heap_lt HO6.out⟩ | exact ⟨⟨cell_row HO5.out rfl, cell_row HO5.out rfl, cell_row HO5.out rfl⟩, heap_lt HO5.out⟩ | exact ⟨⟨cell_row HO0.out rfl, cell_row HO0.out rfl, cell_row HO0.out rfl⟩, heap_lt HO0.out⟩)
          (first
            | (have _tok := HO5; go_at_call 16; (with_reducible refine (ref_out_all R.r R1 RR.out q nv xx w5 SP5.out.cR hxx.out hpl.out).mono ?_); rintro e w6 ⟨rfl, ⟨R2, hr2, hl2, hx2⟩, ho2⟩; have SP6 := Lib.hid (SP5.out.rs hr2 ho2 hl2); have AG6 := Lib.hid (AG.out.out_all SA.out hx2); have RR2 : Hid (R2.r = R.r) := hl2.r.trans RR.out; have HO6 : Hid (w6.heap[gb]? = _) := (ho2.block gb (heap_lt HO5.out) RN.out).trans HO5.out; clear hr2 hl2 hx2 ho2)
            | (go_at_call 15; (with_reducible refine (out_all f1.g f1 rfl q nv xx wa.drew SD.out.cF hxx.out hnn.out).mono ?_); rintro e w5 ⟨rfl, hf, ho⟩; have KL := Lib.hid (Like.out f1 q nv xx); have SP5 := Lib.hid (SD.out.fs hf ho KL.out); have HO5 : Hid (w5.heap[gb]? = _) := (ho.block gb (heap_lt HO0.out) FN.out).trans HO0.out; clear hf ho))
        have HE := Lib.hid (outE_eq SA.out q nv)
        rw [← HE.out]
        obtain ⟨f2, hf2⟩ : ∃ x, x = (if outE f1 q nv = 0 then f1.outP nv.toNat xx else f1) := ⟨_, rfl⟩
        rw [← hf2] at SP6 AG6 KL SP5
        have G2 : Hid (f2.g = f1.g) := KL.out.g
        clear HE hf2
        have T1 : (outE f1 q nv == outE f1 q nv) = true := by simp
        have T2 : (outE f1 q nv != outE f1 q nv) = false := by simp
        generalize outE f1 q nv = E at *
        clear SP5 SA SD KL HO0 HO5 HO6 HBO HBN FN RN hsz hbs hpl
        go_wp2_with fail
        obtain ⟨ia, ic, hvi, -, -, hi3⟩ := SP6.out.cR.ins.slice
        obtain ⟨oa, oc, hvo, -, -, ho3⟩ := SP6.out.cR.outs.slice
        rw [SP6.out.rI] at hi3 hvi
        rw [SP6.out.rS] at ho3 hvo
        have HI3 := Lib.hid hi3; have HO3 := Lib.hid ho3
        have RC : Hid (∀ W, Below w6.heap.size w6 W → (W.cell? ⟨R.r, 4, none⟩ = some (.slice ia ni ic) ∧ W.cell? ⟨R.r, 5, none⟩ = some (.slice oa len oc)) ∧ R.r < W.heap.size) := fun W h => by
          have h1 := (h.block _ SP6.out.cR.hi.1).trans SP6.out.cR.obj
          rw [RR2.out] at h1
          rw [← hvi, ← hvo]
          exact ⟨⟨cell_row h1 rfl, cell_row h1 rfl⟩, heap_lt h1⟩
        have Y0 : Hid (Below w6.heap.size w6 w6.drew) := (Below.refl _ _).drew
        have hni16 : ni ≤ 1000000 := by have := SP6.out.cF.ok.nI; rw [SP6.out.fI] at this; omega
        have hle16 : len ≤ 1000000 := by have := SP6.out.cF.ok.nS; rw [SP6.out.fS] at this; omega
        clear hvi hvo hi3 ho3
        go_wp2_with fail
        go_region_held3 (fun V => (V.cell? ⟨R.r, 4, none⟩ = some (.slice ia ni ic) ∧ V.cell? ⟨R.r, 5, none⟩ = some (.slice oa len oc)) ∧ R.r < V.heap.size)
          (first | exact RC.out _ Y24.out | exact RC.out _ Y23.out | exact RC.out _ Y22.out | exact RC.out _ Y21.out | exact RC.out _ Y0.out)
          (first
            | (have _tok := Y23; go_at_call 20; (with_reducible refine (same_true a23 oa len c23 oc f2.outs R2.outs w23 hle16 S23.out (HO3.out.below Y23.out) AG6.out.outs).mono ?_); rintro e w24 ⟨rfl, hb24⟩; have Y24 : Hid (Below w6.heap.size w6 w24) := Y23.out.trans (hb24.mono Y23.out.size); clear hb24)
            | (have _tok := Y22; go_at_call 22; (with_reducible refine (outs_g f1.g f2 G2.out len f2.outs w22 (SP6.out.cF.below Y22.out) SP6.out.fS (fun _ _ => rfl)).mono ?_); rintro e w23 ⟨a23, c23, rfl, hs23, hb23⟩; have S23 := Lib.hid hs23; have Y23 : Hid (Below w6.heap.size w6 w23) := Y22.out.trans (hb23.mono Y22.out.size); clear hs23 hb23)
            | (have _tok := Y21; go_at_call 20; (with_reducible refine (same_true a21 ia ni c21 ic f2.ins R2.ins w21 hni16 S21.out (HI3.out.below Y21.out) (fun i _ => congrFun AG6.out.ins i)).mono ?_); rintro e w22 ⟨rfl, hb22⟩; have Y22 : Hid (Below w6.heap.size w6 w22) := Y21.out.trans (hb22.mono Y21.out.size); clear hb22)
            | (go_at_call 21; (with_reducible refine (ins_g f1.g f2 G2.out ni f2.ins w6.drew (SP6.out.cF.below Y0.out) SP6.out.fI (fun _ _ => rfl)).mono ?_); rintro e w21 ⟨a21, c21, rfl, hs21, hb21⟩; have S21 := Lib.hid hs21; have Y21 : Hid (Below w6.heap.size w6 w21) := Y0.out.trans hb21; clear hs21 hb21))
        go_wp2_with fail
        go_roundw
        case rel => exact ⟨k + 1, f2, _, by omega, by go_num, by rw [G2.out], RR2.out, SP6.out.same Y24.out, AG6.out⟩
        case measure => simp [intOf]; omega
      by_cases k3 : kd = 3
      · subst k3
        go_wp2_with fail
        generalize wr.alloc (.cells #[.int .i64 3, .int .i64 q, .int .i64 nv, .int .u32 (xx : Int), .slice la ll lc] 38) = wa at *
        generalize hgb : wr.heap.size = gb at *
        clear hgb x0 x1 x2 x3 x4
        refine (commit_g f1.g f1 rfl _ _ _ SA.out.cF rfl).mono ?_
        rintro e w5 ⟨rfl, hf, ho⟩
        obtain ⟨W, hW⟩ : ∃ x, x = (if ((xx : Int) != 0) then f1.done else f1.safe) := ⟨_, rfl⟩
        have hf' : FieldAt w5 (f1.commit W) := by rw [hW]; exact hf
        have KL := Lib.hid (Like.commit f1 W)
        have SP5 := Lib.hid (SA.out.fs hf' ho KL.out)
        have HW := Lib.hid hW
        have hbo := (ho.block gb (heap_lt HBO.out) FN.out).trans HBO.out
        have b3 : w5.cell? ⟨gb, 3, none⟩ = some (.int .u32 (xx : Int)) := cell_row hbo rfl
        have b4 : gb < w5.heap.size := heap_lt hbo
        clear hf hf' ho hbo hW
        go_wp2_with fail
        refine (ref_commit_g R.r R1 RR.out _ w5 SP5.out.cR).mono ?_
        rintro e w6 ⟨rfl, ⟨R2, hr2, q1, q2, q3, hl2⟩, ho2⟩
        have SP6 := Lib.hid (SP5.out.rs hr2 ho2 hl2)
        have AG6 : Hid (Ag len S (f1.commit W) R2 (k + 1)) := by
          rw [HW.out]
          exact AG.out.commit ((xx : Int) != 0) q1 q2 q3 SA.out.fsafe SA.out.rsafe SA.out.fS
        have RR2 : Hid (R2.r = R.r) := hl2.r.trans RR.out
        obtain ⟨f2, hf2⟩ : ∃ x, x = f1.commit W := ⟨_, rfl⟩
        rw [← hf2] at SP6 AG6 KL SP5
        have G2 : Hid (f2.g = f1.g) := KL.out.g
        clear hr2 q1 q2 q3 hl2 ho2 hf2 SP5 SA KL HBO HBN FN RN hsz hbs hpl b3 b4 HW
        obtain ⟨ia, ic, hvi, -, -, hi3⟩ := SP6.out.cR.ins.slice
        obtain ⟨oa, oc, hvo, -, -, ho3⟩ := SP6.out.cR.outs.slice
        rw [SP6.out.rI] at hi3 hvi
        rw [SP6.out.rS] at ho3 hvo
        have HI3 := Lib.hid hi3; have HO3 := Lib.hid ho3
        have RC : Hid (∀ W, Below w6.heap.size w6 W → (W.cell? ⟨R.r, 4, none⟩ = some (.slice ia ni ic) ∧ W.cell? ⟨R.r, 5, none⟩ = some (.slice oa len oc)) ∧ R.r < W.heap.size) := fun W h => by
          have h1 := (h.block _ SP6.out.cR.hi.1).trans SP6.out.cR.obj
          rw [RR2.out] at h1
          rw [← hvi, ← hvo]
          exact ⟨⟨cell_row h1 rfl, cell_row h1 rfl⟩, heap_lt h1⟩
        have Y0 : Hid (Below w6.heap.size w6 w6.drew) := (Below.refl _ _).drew
        have hni16 : ni ≤ 1000000 := by have := SP6.out.cF.ok.nI; rw [SP6.out.fI] at this; omega
        have hle16 : len ≤ 1000000 := by have := SP6.out.cF.ok.nS; rw [SP6.out.fS] at this; omega
        clear hvi hvo hi3 ho3
        go_wp2_with fail
        go_region_held3 (fun V => (V.cell? ⟨R.r, 4, none⟩ = some (.slice ia ni ic) ∧ V.cell? ⟨R.r, 5, none⟩ = some (.slice oa len oc)) ∧ R.r < V.heap.size)
          (first | exact RC.out _ Y24.out | exact RC.out _ Y23.out | exact RC.out _ Y22.out | exact RC.out _ Y21.out | exact RC.out _ Y0.out)
          (first
            | (have _tok := Y23; go_at_call 20; (with_reducible refine (same_true a23 oa len c23 oc f2.outs R2.outs w23 hle16 S23.out (HO3.out.below Y23.out) AG6.out.outs).mono ?_); rintro e w24 ⟨rfl, hb24⟩; have Y24 : Hid (Below w6.heap.size w6 w24) := Y23.out.trans (hb24.mono Y23.out.size); clear hb24)
            | (have _tok := Y22; go_at_call 22; (with_reducible refine (outs_g f1.g f2 G2.out len f2.outs w22 (SP6.out.cF.below Y22.out) SP6.out.fS (fun _ _ => rfl)).mono ?_); rintro e w23 ⟨a23, c23, rfl, hs23, hb23⟩; have S23 := Lib.hid hs23; have Y23 : Hid (Below w6.heap.size w6 w23) := Y22.out.trans (hb23.mono Y22.out.size); clear hs23 hb23)
            | (have _tok := Y21; go_at_call 20; (with_reducible refine (same_true a21 ia ni c21 ic f2.ins R2.ins w21 hni16 S21.out (HI3.out.below Y21.out) (fun i _ => congrFun AG6.out.ins i)).mono ?_); rintro e w22 ⟨rfl, hb22⟩; have Y22 : Hid (Below w6.heap.size w6 w22) := Y21.out.trans (hb22.mono Y21.out.size); clear hb22)
            | (go_at_call 21; (with_reducible refine (ins_g f1.g f2 G2.out ni f2.ins w6.drew (SP6.out.cF.below Y0.out) SP6.out.fI (fun _ _ => rfl)).mono ?_); rintro e w21 ⟨a21, c21, rfl, hs21, hb21⟩; have S21 := Lib.hid hs21; have Y21 : Hid (Below w6.heap.size w6 w21) := Y0.out.trans hb21; clear hs21 hb21))
        go_wp2_with fail
        go_roundw
        case rel => exact ⟨k + 1, f2, _, by omega, by go_num, by rw [G2.out], RR2.out, SP6.out.same Y24.out, AG6.out⟩
        case measure => simp [intOf]; omega
      by_cases k4 : kd = 4
      · subst k4
        go_wp2_with fail
        generalize wr.alloc (.cells #[.int .i64 4, .int .i64 q, .int .i64 nv, .int .u32 (xx : Int), .slice la ll lc] 38) = wa at *
        generalize hgb : wr.heap.size = gb at *
        clear hgb x0 x1 x2 x3 x4
        refine (copy_any f1 wa SA.out.cF (by rw [hsz.out]; exact hbs.out)).mono ?_
        rintro e w5 ⟨hi, g, bi, bo, bp, bh, vi, vo, vp, vh, rfl, hf, hb⟩
        have SP5 := Lib.hid (SA.out.cp hf hb)
        have AG5 := Lib.hid (AG.out.to wa.heap.size hi g bi bo bp bh vi vo vp vh)
        obtain ⟨f2, hf2⟩ : ∃ x, x = f1.to wa.heap.size hi g bi bo bp bh vi vo vp vh := ⟨_, rfl⟩
        have G2 : Hid (f2.g = g) := by show _ = _; rw [hf2]; rfl
        have L2 : Hid (f1.hi ≤ f2.lo) := by show _ ≤ _; rw [hf2]; exact SA.out.cF.hi
        have S2 : Hid (0 < len → f2.bs < f1.lo) := fun hz => by rw [hf2]; exact (SA.out.bs hz).1
        rw [← hf2] at SP5 AG5
        have F5 : Hid (FieldAt w5 f1) := SA.out.cF.below hb
        clear hf hb hf2
        obtain ⟨⟨d0, d1, d2, d3⟩, dl⟩ := DC.out _ SP5.out.B
        have hni : ni ≤ 16 := by have := SA.out.cF.ok.nI; rw [SA.out.fI] at this; exact this
        have hmk := fun w => run_make_row' (P := Try.prog) 22 23 (.int .u32 0) 4 Try.underlying22 info23 rfl .i64 .i64 ni (by omega) (by omega) w
        have HMA := Lib.hid (made_at w5 ni (by unfold maxLen; omega))
        have HMB : Hid (Below w5.heap.size w5 (w5.alloc (.cells (madeCells #[.int .u32 0] ni) 23))) := alloc_below _ _
        go_wp2_with fail
        clear hmk d0 d1 d2 d3 dl
        refine (latch_all f1.g f1 rfl ni SA.out.fI _ ni ni (fun _ => 0) _ (F5.out.below HMB.out) (by omega) HMA.out (fun _ => by show 0 < _; omega)).mono ?_
        rintro e w6 ⟨rfl, hf6, ho6⟩
        have K6 := Lib.hid (Like.latch_all f1 ni ni (fun _ => 0))
        obtain ⟨f3, hf3⟩ : ∃ x, x = (if ni = ni then f1.latch (fun _ => 0) else f1) := ⟨_, rfl⟩
        rw [← hf3] at hf6 K6
        have F6 := Lib.hid hf6
        have SP6 : Hid (Sp w0 w6 f2 R1 ni len rd wt a S) := (SP5.out.same HMB.out).old ho6 SA.out.lo.1 L2.out S2.out SA.out.apr SA.out.api SA.out.apo SA.out.app
        clear hf6 ho6 hf3 HMA HMB F5 SP5
        obtain ⟨⟨d0, d1, d2, d3⟩, dl⟩ := DC.out _ SP6.out.B
        generalize latE ni ni = E6
        go_wp2_with fail
        clear d0 d1 d2 d3 dl
        have HOC := out_all f1.g f3 K6.out.g wt 0 77 w6 F6.out (by omega) ⟨by omega, by omega⟩
        refine (show Calls Try.prog 15 #[.pointer (some ⟨f1.g, 0, none⟩), .int .i64 wt, .int .i64 0, .int .u32 77] w6 _ from HOC).mono ?_
        clear HOC
        rintro e w7 ⟨rfl, hf7, ho7⟩
        have K7 := Lib.hid (K6.out.trans (Like.out f3 wt 0 77))
        obtain ⟨f4, hf4⟩ : ∃ x, x = (if outE f3 wt 0 = 0 then f3.outP (Int.toNat 0) 77 else f3) := ⟨_, rfl⟩
        rw [← hf4] at hf7 K7
        have F7 := Lib.hid hf7
        have SP7 : Hid (Sp w0 w7 f2 R1 ni len rd wt a S) := SP6.out.old (by rw [← K6.out.M]; exact ho7) SA.out.lo.1 L2.out S2.out SA.out.apr SA.out.api SA.out.apo SA.out.app
        clear hf7 ho7 hf4 F6 SP6
        generalize outE f3 wt 0 = E7
        go_wp2_with fail
        refine (commit_g f1.g f4 K7.out.g true f4.done w7 F7.out rfl).mono ?_
        rintro e w8 ⟨rfl, hf8, ho8⟩
        have SP8 : Hid (Sp w0 w8 f2 R1 ni len rd wt a S) := SP7.out.old (by rw [← K7.out.M]; exact ho8) SA.out.lo.1 L2.out S2.out SA.out.apr SA.out.api SA.out.apo SA.out.app
        clear hf8 ho8 F7 SP7 K6 K7 L2 S2 SA HBO HBN FN RN hsz hbs hpl
        obtain ⟨ia, ic, hvi, -, -, hi3⟩ := SP8.out.cR.ins.slice
        obtain ⟨oa, oc, hvo, -, -, ho3⟩ := SP8.out.cR.outs.slice
        rw [SP8.out.rI] at hi3 hvi
        rw [SP8.out.rS] at ho3 hvo
        have HI3 := Lib.hid hi3; have HO3 := Lib.hid ho3
        have RC : Hid (∀ W, Below w8.heap.size w8 W → (W.cell? ⟨R.r, 4, none⟩ = some (.slice ia ni ic) ∧ W.cell? ⟨R.r, 5, none⟩ = some (.slice oa len oc)) ∧ R.r < W.heap.size) := fun W h => by
          have h1 := (h.block _ SP8.out.cR.hi.1).trans SP8.out.cR.obj
          rw [RR.out] at h1
          rw [← hvi, ← hvo]
          exact ⟨⟨cell_row h1 rfl, cell_row h1 rfl⟩, heap_lt h1⟩
        have Y0 : Hid (Below w8.heap.size w8 w8.drew) := (Below.refl _ _).drew
        have hni16 : ni ≤ 1000000 := by have := SP8.out.cF.ok.nI; rw [SP8.out.fI] at this; omega
        have hle16 : len ≤ 1000000 := by have := SP8.out.cF.ok.nS; rw [SP8.out.fS] at this; omega
        clear hvi hvo hi3 ho3
        go_wp2_with fail
        go_region_held3 (fun V => (V.cell? ⟨R.r, 4, none⟩ = some (.slice ia ni ic) ∧ V.cell? ⟨R.r, 5, none⟩ = some (.slice oa len oc)) ∧ R.r < V.heap.size)
          (first | exact RC.out _ Y24.out | exact RC.out _ Y23.out | exact RC.out _ Y22.out | exact RC.out _ Y21.out | exact RC.out _ Y0.out)
          (first
            | (have _tok := Y23; go_at_call 20; (with_reducible refine (same_true a23 oa len c23 oc f2.outs R1.outs w23 hle16 S23.out (HO3.out.below Y23.out) AG5.out.outs).mono ?_); rintro e w24 ⟨rfl, hb24⟩; have Y24 : Hid (Below w8.heap.size w8 w24) := Y23.out.trans (hb24.mono Y23.out.size); clear hb24)
            | (have _tok := Y22; go_at_call 22; (with_reducible refine (outs_g g f2 G2.out len f2.outs w22 (SP8.out.cF.below Y22.out) SP8.out.fS (fun _ _ => rfl)).mono ?_); rintro e w23 ⟨a23, c23, rfl, hs23, hb23⟩; have S23 := Lib.hid hs23; have Y23 : Hid (Below w8.heap.size w8 w23) := Y22.out.trans (hb23.mono Y22.out.size); clear hs23 hb23)
            | (have _tok := Y21; go_at_call 20; (with_reducible refine (same_true a21 ia ni c21 ic f2.ins R1.ins w21 hni16 S21.out (HI3.out.below Y21.out) (fun i _ => congrFun AG5.out.ins i)).mono ?_); rintro e w22 ⟨rfl, hb22⟩; have Y22 : Hid (Below w8.heap.size w8 w22) := Y21.out.trans (hb22.mono Y21.out.size); clear hb22)
            | (go_at_call 21; (with_reducible refine (ins_g g f2 G2.out ni f2.ins w8.drew (SP8.out.cF.below Y0.out) SP8.out.fI (fun _ _ => rfl)).mono ?_); rintro e w21 ⟨a21, c21, rfl, hs21, hb21⟩; have S21 := Lib.hid hs21; have Y21 : Hid (Below w8.heap.size w8 w21) := Y0.out.trans hb21; clear hs21 hb21))
        go_wp2_with fail
        go_roundw
        case rel => exact ⟨k + 1, f2, _, by omega, by go_num, by rw [G2.out], RR.out, SP8.out.same Y24.out, AG5.out⟩
        case measure => simp [intOf]; omega
      have z0 : (kd == 0) = false := by simpa using k0
      have z1 : (kd == 1) = false := by simpa using k1
      have z2 : (kd == 2) = false := by simpa using k2
      have z3 : (kd == 3) = false := by simpa using k3
      have z4 : (kd == 4) = false := by simpa using k4
      clear k0 k1 k2 k3 k4
      go_wp2_with fail
      generalize wr.alloc (.cells #[.int .i64 kd, .int .i64 q, .int .i64 nv, .int .u32 (xx : Int), .slice la ll lc] 38) = wa at *
      generalize hgb : wr.heap.size = gb at *
      clear hgb x0 x1 x2 x3 x4
      obtain ⟨f2, e2⟩ : ∃ x, x = f1 := ⟨_, rfl⟩
      have G2 : Hid (f2.g = f1.g) := by rw [e2]; exact rfl
      have SP6 : Hid (Sp w0 wa f2 R1 ni len rd wt a S) := by rw [e2]; exact SA.out
      have AG6 : Hid (Ag len S f2 R1 (k + 1)) := by rw [e2]; exact AG.out.up
      clear HBO HBN FN RN hsz hbs hpl SA e2
      obtain ⟨ia, ic, hvi, -, -, hi3⟩ := SP6.out.cR.ins.slice
      obtain ⟨oa, oc, hvo, -, -, ho3⟩ := SP6.out.cR.outs.slice
      rw [SP6.out.rI] at hi3 hvi
      rw [SP6.out.rS] at ho3 hvo
      have HI3 := Lib.hid hi3; have HO3 := Lib.hid ho3
      have RC : Hid (∀ W, Below wa.heap.size wa W → (W.cell? ⟨R.r, 4, none⟩ = some (.slice ia ni ic) ∧ W.cell? ⟨R.r, 5, none⟩ = some (.slice oa len oc)) ∧ R.r < W.heap.size) := fun W h => by
        have h1 := (h.block _ SP6.out.cR.hi.1).trans SP6.out.cR.obj
        rw [RR.out] at h1
        rw [← hvi, ← hvo]
        exact ⟨⟨cell_row h1 rfl, cell_row h1 rfl⟩, heap_lt h1⟩
      have Y0 : Hid (Below wa.heap.size wa wa.drew) := (Below.refl _ _).drew
      have hni16 : ni ≤ 1000000 := by have := SP6.out.cF.ok.nI; rw [SP6.out.fI] at this; omega
      have hle16 : len ≤ 1000000 := by have := SP6.out.cF.ok.nS; rw [SP6.out.fS] at this; omega
      clear hvi hvo hi3 ho3
      go_wp2_with fail
      go_region_held3 (fun V => (V.cell? ⟨R.r, 4, none⟩ = some (.slice ia ni ic) ∧ V.cell? ⟨R.r, 5, none⟩ = some (.slice oa len oc)) ∧ R.r < V.heap.size)
        (first | exact RC.out _ Y24.out | exact RC.out _ Y23.out | exact RC.out _ Y22.out | exact RC.out _ Y21.out | exact RC.out _ Y0.out)
        (first
          | (have _tok := Y23; go_at_call 20; (with_reducible refine (same_true a23 oa len c23 oc f2.outs R1.outs w23 hle16 S23.out (HO3.out.below Y23.out) AG6.out.outs).mono ?_); rintro e w24 ⟨rfl, hb24⟩; have Y24 : Hid (Below wa.heap.size wa w24) := Y23.out.trans (hb24.mono Y23.out.size); clear hb24)
          | (have _tok := Y22; go_at_call 22; (with_reducible refine (outs_g f1.g f2 G2.out len f2.outs w22 (SP6.out.cF.below Y22.out) SP6.out.fS (fun _ _ => rfl)).mono ?_); rintro e w23 ⟨a23, c23, rfl, hs23, hb23⟩; have S23 := Lib.hid hs23; have Y23 : Hid (Below wa.heap.size wa w23) := Y22.out.trans (hb23.mono Y22.out.size); clear hs23 hb23)
          | (have _tok := Y21; go_at_call 20; (with_reducible refine (same_true a21 ia ni c21 ic f2.ins R1.ins w21 hni16 S21.out (HI3.out.below Y21.out) (fun i _ => congrFun AG6.out.ins i)).mono ?_); rintro e w22 ⟨rfl, hb22⟩; have Y22 : Hid (Below wa.heap.size wa w22) := Y21.out.trans (hb22.mono Y21.out.size); clear hb22)
          | (go_at_call 21; (with_reducible refine (ins_g f1.g f2 G2.out ni f2.ins wa.drew (SP6.out.cF.below Y0.out) SP6.out.fI (fun _ _ => rfl)).mono ?_); rintro e w21 ⟨a21, c21, rfl, hs21, hb21⟩; have S21 := Lib.hid hs21; have Y21 : Hid (Below wa.heap.size wa w21) := Y0.out.trans hb21; clear hs21 hb21))
      go_wp2_with fail
      go_roundw
      case rel => exact ⟨k + 1, f2, _, by omega, by go_num, by rw [G2.out], RR.out, SP6.out.same Y24.out, AG6.out⟩
      case measure => simp [intOf]; omega
    · obtain rfl : bl = k := by omega
      go_wp2_with fail
      go_ret
      refine ⟨rfl, ?_⟩
      first | exact HB0.out.trans ((SP.out.B).mono (Nat.le_of_lt HD.out)) | (rw [HG.out]; exact HB0.out.trans ((SP.out.B).mono (Nat.le_of_lt HD.out)))
end Go.Proofs.Ytdelcndaogjngaa
