/- The walk of FieldFrame. -/
import Derived.Test.YtdelcndaogjngaaFieFr
import Derived.Deep.RegionHeld3
namespace Go.Proofs.Ytdelcndaogjngaa
open Go.RowKit
set_option linter.unusedVariables false
theorem out_all (g : Nat) (f : FS) (hg : f.g = g) (p n : Int) (x : Nat) (w : World) (h : FieldAt w f) (hx : x < 4294967296) (hn : in64 n) :
    Calls Try.prog 15 #[.pointer (some ⟨g, 0, none⟩), .int .i64 p, .int .i64 n, .int .u32 (x : Int)] w fun e w' => e = .returned (.int .i64 (outE f p n)) ∧ FieldAt w' (if outE f p n = 0 then f.outP n.toNat x else f) ∧ Only f.M w w' := by
  by_cases hE : outE f p n = 0
  · refine (out_g g f hg p n x w h hx hE).mono ?_
    rintro e w' ⟨rfl, h1, h2⟩
    exact ⟨by rw [hE], by rw [if_pos hE]; exact h1, h2⟩
  · refine (outbad_g g f hg p n x w h hn.1 hn.2 _ rfl hE).mono ?_
    rintro e w' ⟨rfl, rfl⟩
    exact ⟨rfl, by rw [if_neg hE]; exact h, Only.refl _ _⟩
theorem in_all (g : Nat) (f : FS) (hg : f.g = g) (p n : Int) (w : World) (h : FieldAt w f) (hp : in64 p) (hn : in64 n) :
    Calls Try.prog 13 #[.pointer (some ⟨g, 0, none⟩), .int .i64 p, .int .i64 n] w fun e w' => e = .returned (.tuple #[.int .u32 ((inX f p n : Nat) : Int), .int .i64 (inE f p n)]) ∧ w = w' := by
  by_cases hE : inE f p n = 0
  · refine (in_g g f hg p n _ w h hE rfl).mono ?_
    rintro e w' ⟨rfl, rfl⟩
    exact ⟨by rw [hE]; unfold inX; rw [if_pos hE], rfl⟩
  · refine (inbad_g g f hg p n w h hp.2 hn.1 hn.2 _ rfl hE).mono ?_
    rintro e w' ⟨rfl, rfl⟩
    exact ⟨by unfold inX; rw [if_neg hE]; rfl, rfl⟩
theorem Like.out (f : FS) (p n : Int) (x : Nat) : Like f (if outE f p n = 0 then f.outP n.toNat x else f) := by
  split
  · exact Like.outP _ _ _
  · exact Like.refl _
/-- What a call on the field turns is not below B. -/
theorem Only.old {f f' : FS} {B : Nat} {w0 w1 w2 : World} (ho : Only f'.M w1 w2) (h : Below B w0 w1) (hs : B ≤ w1.heap.size) (hl : Like f f') (hB : B ≤ f.lo) : Below B w0 w2 :=
  h.trans (ho.below hs fun i hi hm => by have h1 : f'.lo ≤ i := hm.1; have h2 := hl.lo; omega)
def bx (d : DoR) : Obj := .cells #[.int .i64 d.kind, .int .i64 d.part, .int .i64 d.n, .int .u32 (d.x : Int), .slice d.la d.ll d.lc] 38
set_option maxHeartbeats 2000000 in
set_option maxRecDepth 100000 in
theorem frame_big (nI : Int) (a : Option Addr) (len cap rd : Nat) (wt : Int) (bv xv fv : Value) (ok : Bool) (w : World) (hm : len ≤ 9223372036854775807) (h : 1000 < len) :
    Calls Try.prog 4 #[.agg #[.int .i64 nI, .slice a len cap, .int .u32 (rd : Int), .int .i64 wt], bv, xv, fv, .bool ok] w fun e w' => e = .returned (.bool true) ∧ Below w.heap.size w w' := by
  have t1 : decide (1000 < (len : Int)) = true := by simp; omega
  have HBX : Hid ((w.alloc (.cells #[.int .i64 nI, .slice a len cap, .int .u32 (rd : Int), .int .i64 wt] 25)).heap[w.heap.size]? = some (.cells #[.int .i64 nI, .slice a len cap, .int .u32 (rd : Int), .int .i64 wt] 25 (0, 0))) := heap_alloc_new _ _
  have HB0 : Hid (Below w.heap.size w (w.alloc (.cells #[.int .i64 nI, .slice a len cap, .int .u32 (rd : Int), .int .i64 wt] 25))) := alloc_below _ _
  go_enter Try.func4, Try.ntmps4
  go_wp2_with fail
  generalize w.alloc (.cells #[.int .i64 nI, .slice a len cap, .int .u32 (rd : Int), .int .i64 wt] 25) = w0 at *
  generalize hgd : w.heap.size = gd at *
  have HG := Lib.hid hgd
  clear hgd
  have HD : Hid (gd < w0.heap.size) := heap_lt HBX.out
  have DC : Hid (∀ W, Below w0.heap.size w0 W → (W.cell? ⟨gd, 0, none⟩ = some (.int .i64 nI) ∧ W.cell? ⟨gd, 1, none⟩ = some (.slice a len cap) ∧ W.cell? ⟨gd, 2, none⟩ = some (.int .u32 (rd : Int)) ∧ W.cell? ⟨gd, 3, none⟩ = some (.int .i64 wt)) ∧ gd < W.heap.size) := fun W h => by
    have h1 := (h.block _ HD.out).trans HBX.out
    exact ⟨⟨cell_row h1 rfl, cell_row h1 rfl, cell_row h1 rfl, cell_row h1 rfl⟩, heap_lt h1⟩
  refine (known_any _).mono ?_
  rintro e w1 ⟨rfl, hb⟩
  have B1 := Lib.hid hb
  clear hb
  obtain ⟨⟨d0, d1, d2, d3⟩, dl⟩ := DC.out _ B1.out
  go_wp2_with fail
  go_ret
  refine ⟨rfl, ?_⟩
  first | exact HB0.out.trans ((B1.out).mono (Nat.le_of_lt HD.out)) | (rw [HG.out]; exact HB0.out.trans ((B1.out).mono (Nat.le_of_lt HD.out)))
set_option maxHeartbeats 16000000 in
set_option maxRecDepth 100000 in
theorem frame_any (nI : Int) (a : Option Addr) (len cap rd : Nat) (wt : Int) (S : Nat → Nat) (ba : Option Addr) (bl bc : Nat) (B : Nat → DoR) (xa : Option Addr) (xl xc : Nat) (X : Nat → Nat) (fa : Option Addr) (fl fc : Nat) (R : Nat → DoR) (ok : Bool) (w : World)
    (hlen : ¬ 1000 < len) (hS : SliceAt w a len (uV S)) (hSl : ∀ i, S i < 4294967296) (hB : DosAt w ba bl B) (hbl : bl ≤ 9223372036854775807) (hX : SliceAt w xa xl (uV X)) (hXl : ∀ i, X i < 4294967296) (hxl : xl ≤ 9223372036854775807) (hR : DosAt w fa fl R) (hfl : fl ≤ 9223372036854775807) :
    Calls Try.prog 4 #[.agg #[.int .i64 nI, .slice a len cap, .int .u32 (rd : Int), .int .i64 wt], .slice ba bl bc, .slice xa xl xc, .slice fa fl fc, .bool ok] w fun e w' => e = .returned (.bool true) ∧ Below w.heap.size w w' := by
  have t1 : decide (1000 < (len : Int)) = false := by simp; omega
  have HS : Hid (SliceAt (w.alloc (.cells #[.int .i64 nI, .slice a len cap, .int .u32 (rd : Int), .int .i64 wt] 25)) a len (uV S)) := hS.below (alloc_below _ _)
  have HX : Hid (SliceAt (w.alloc (.cells #[.int .i64 nI, .slice a len cap, .int .u32 (rd : Int), .int .i64 wt] 25)) xa xl (uV X)) := hX.below (alloc_below _ _)
  have HB : Hid (DosAt (w.alloc (.cells #[.int .i64 nI, .slice a len cap, .int .u32 (rd : Int), .int .i64 wt] 25)) ba bl B) := hB.below (alloc_below _ _)
  have HR : Hid (DosAt (w.alloc (.cells #[.int .i64 nI, .slice a len cap, .int .u32 (rd : Int), .int .i64 wt] 25)) fa fl R) := hR.below (alloc_below _ _)
  have HSl := Lib.hid hSl; have HXl := Lib.hid hXl
  clear hS hX hB hR hSl hXl
  have HBX : Hid ((w.alloc (.cells #[.int .i64 nI, .slice a len cap, .int .u32 (rd : Int), .int .i64 wt] 25)).heap[w.heap.size]? = some (.cells #[.int .i64 nI, .slice a len cap, .int .u32 (rd : Int), .int .i64 wt] 25 (0, 0))) := heap_alloc_new _ _
  have HB0 : Hid (Below w.heap.size w (w.alloc (.cells #[.int .i64 nI, .slice a len cap, .int .u32 (rd : Int), .int .i64 wt] 25))) := alloc_below _ _
  go_enter Try.func4, Try.ntmps4
  go_wp2_with fail
  generalize w.alloc (.cells #[.int .i64 nI, .slice a len cap, .int .u32 (rd : Int), .int .i64 wt] 25) = w0 at *
  generalize hgd : w.heap.size = gd at *
  have HG := Lib.hid hgd
  clear hgd
  have HD : Hid (gd < w0.heap.size) := heap_lt HBX.out
  have DC : Hid (∀ W, Below w0.heap.size w0 W → (W.cell? ⟨gd, 0, none⟩ = some (.int .i64 nI) ∧ W.cell? ⟨gd, 1, none⟩ = some (.slice a len cap) ∧ W.cell? ⟨gd, 2, none⟩ = some (.int .u32 (rd : Int)) ∧ W.cell? ⟨gd, 3, none⟩ = some (.int .i64 wt)) ∧ gd < W.heap.size) := fun W h => by
    have h1 := (h.block _ HD.out).trans HBX.out
    exact ⟨⟨cell_row h1 rfl, cell_row h1 rfl, cell_row h1 rfl, cell_row h1 rfl⟩, heap_lt h1⟩
  refine (known_any _).mono ?_
  rintro e w1 ⟨rfl, hb⟩
  have B1 := Lib.hid hb
  clear hb
  have c1 := DC.out _ B1.out
  obtain ⟨⟨d0, d1, d2, d3⟩, dl⟩ := c1
  go_wp2_with fail
  refine (heavy_any ba bl bc B _ hbl (HB.out.below B1.out)).mono ?_
  rintro e w2 ⟨⟨b, rfl, hb⟩, hw⟩
  have B2 : Hid (Below w0.heap.size w0 w2) := B1.out.trans (hw.mono B1.out.size)
  have LB := Lib.hid hb
  clear hb hw
  cases b
  case true =>
    go_wp2_with fail
    go_ret
    refine ⟨rfl, ?_⟩
    first | exact HB0.out.trans ((B2.out).mono (Nat.le_of_lt HD.out)) | (rw [HG.out]; exact HB0.out.trans ((B2.out).mono (Nat.le_of_lt HD.out)))
  clear d0 d1 d2 d3 dl
  obtain ⟨⟨d0, d1, d2, d3⟩, dl⟩ := DC.out _ B2.out
  go_wp2_with fail
  refine (heavy_any fa fl fc R _ hfl (HR.out.below B2.out)).mono ?_
  rintro e w3 ⟨⟨b, rfl, hb⟩, hw⟩
  have B3 : Hid (Below w0.heap.size w0 w3) := B2.out.trans (hw.mono B2.out.size)
  have LR := Lib.hid hb
  clear hb hw
  cases b
  case true =>
    go_wp2_with fail
    go_ret
    refine ⟨rfl, ?_⟩
    first | exact HB0.out.trans ((B3.out).mono (Nat.le_of_lt HD.out)) | (rw [HG.out]; exact HB0.out.trans ((B3.out).mono (Nat.le_of_lt HD.out)))
  clear d0 d1 d2 d3 dl t1
  obtain ⟨⟨d0, d1, d2, d3⟩, dl⟩ := DC.out _ B3.out
  go_wp2_with fail
  by_cases hmay : mayD nI len rd wt
  case neg =>
    refine (new_bad nI a len cap rd wt _ hmay).mono ?_
    rintro e w4 ⟨rfl, hw⟩
    have B4 : Hid (Below w0.heap.size w0 w4) := B3.out.trans (hw.mono B3.out.size)
    clear hw
    go_wp2_with fail
    go_ret
    refine ⟨rfl, ?_⟩
    first | exact HB0.out.trans ((B4.out).mono (Nat.le_of_lt HD.out)) | (rw [HG.out]; exact HB0.out.trans ((B4.out).mono (Nat.le_of_lt HD.out)))
  obtain ⟨ni, rfl⟩ := Int.eq_ofNat_of_zero_le hmay.1
  refine (new_ok ni a len cap rd wt S _ hmay (HS.out.below B3.out) HSl.out).mono ?_
  rintro e w4 ⟨f, rfl, hf, hn, hw⟩
  have B4 : Hid (Below w0.heap.size w0 w4) := B3.out.trans (hw.mono B3.out.size)
  have F4 := Lib.hid hf
  have N := Lib.hid hn
  have HLO : Hid (w0.heap.size ≤ f.lo) := Nat.le_trans B3.out.size hn.lo
  have HMAY := Lib.hid hmay
  clear hf hn hw hmay LB
  clear d0 d1 d2 d3 dl
  go_wp2_with fail
  go_loopw [44] (fun i wr => ∃ k : Nat, ∃ f' : FS, k ≤ bl ∧ i = .int .i64 k ∧ Like f f' ∧ FieldAt wr f' ∧ Below w0.heap.size w0 wr) (fun i _ => bl - (intOf i).toNat)
  case atStart => exact ⟨0, f, Nat.zero_le _, rfl, Like.refl _, F4.out, B4.out⟩
  case round =>
    clear F4 B4 B3 B2 B1
    obtain ⟨k, f1, hk, rfl, hl, hF, hBl⟩ := hrel
    have K1 := Lib.hid hl; have F1 := Lib.hid hF; have B1 := Lib.hid hBl
    clear hl hF hBl
    by_cases hlt : k < bl
    · skip
      obtain ⟨sb, soff, rfl, hsl, hcells⟩ := HB.out.1.at (by omega)
      have x0 : wr.cell? ⟨sb, soff + k * 5, none⟩ = some (.int .i64 (B k).kind) := by rw [B1.out.cell hsl]; exact hcells k hlt 0 (by omega)
      have x1 : wr.cell? ⟨sb, soff + k * 5 + 1, none⟩ = some (.int .i64 (B k).part) := by rw [B1.out.cell hsl]; exact hcells k hlt 1 (by omega)
      have x2 : wr.cell? ⟨sb, soff + k * 5 + 2, none⟩ = some (.int .i64 (B k).n) := by rw [B1.out.cell hsl]; exact hcells k hlt 2 (by omega)
      have x3 : wr.cell? ⟨sb, soff + k * 5 + 3, none⟩ = some (.int .u32 ((B k).x : Int)) := by rw [B1.out.cell hsl]; exact hcells k hlt 3 (by omega)
      have x4 : wr.cell? ⟨sb, soff + k * 5 + 4, none⟩ = some (.slice (B k).la (B k).ll (B k).lc) := by rw [B1.out.cell hsl]; exact hcells k hlt 4 (by omega)
      clear hcells
      have hxx := Lib.hid (HB.out.2 k).x
      have hqq := Lib.hid (HB.out.2 k).part
      have hnn := Lib.hid (HB.out.2 k).n
      generalize (B k).kind = kd at *
      generalize (B k).part = q at *
      generalize (B k).n = nv at *
      generalize (B k).x = xx at *
      generalize (B k).la = la at *
      generalize (B k).ll = ll at *
      generalize (B k).lc = lc at *
      have HBA : Hid (Below w0.heap.size w0 (wr.alloc (.cells #[.int .i64 kd, .int .i64 q, .int .i64 nv, .int .u32 (xx : Int), .slice la ll lc] 38))) := B1.out.alloc B1.out.size _
      have HBO : Hid ((wr.alloc (.cells #[.int .i64 kd, .int .i64 q, .int .i64 nv, .int .u32 (xx : Int), .slice la ll lc] 38)).heap[wr.heap.size]? = some (.cells #[.int .i64 kd, .int .i64 q, .int .i64 nv, .int .u32 (xx : Int), .slice la ll lc] 38 (0, 0))) := heap_alloc_new _ _
      have HBN : Hid (Below wr.heap.size wr (wr.alloc (.cells #[.int .i64 kd, .int .i64 q, .int .i64 nv, .int .u32 (xx : Int), .slice la ll lc] 38))) := alloc_below _ _
      go_wp2_with fail
      have FA : Hid (FieldAt _ f1) := F1.out.below HBN.out
      have HNM : Hid (¬ f1.M wr.heap.size) := fun h => by have h1 := F1.out.hi; have h2 : wr.heap.size < f1.hi := h.2; omega
      generalize wr.alloc (.cells #[.int .i64 kd, .int .i64 q, .int .i64 nv, .int .u32 (xx : Int), .slice la ll lc] 38) = wa at *
      generalize hgb : wr.heap.size = gb at *
      have HGB := Lib.hid hgb
      clear hgb
      refine (out_all f.g f1 K1.out.g q nv xx wa FA.out hxx.out hnn.out).mono ?_
      rintro e w5 ⟨rfl, hf, ho⟩
      obtain ⟨f2, hf2⟩ : ∃ x, x = (if outE f1 q nv = 0 then f1.outP nv.toNat xx else f1) := ⟨_, rfl⟩
      rw [← hf2] at hf
      have K2 : Hid (Like f f2) := K1.out.trans (by rw [hf2]; exact Like.out _ _ _ _)
      have F2 := Lib.hid hf
      have B2 : Hid (Below w0.heap.size w0 w5) := ho.old HBA.out HBA.out.size K1.out HLO.out
      have hbo := (ho.block gb (heap_lt HBO.out) HNM.out).trans HBO.out
      have b0 : w5.cell? ⟨gb, 0, none⟩ = some (.int .i64 kd) := cell_row hbo rfl
      have bl0 : gb < w5.heap.size := heap_lt hbo
      generalize outE f1 q nv = E at *
      clear hf ho hbo hf2 x0 x1 x2 x3 x4
      go_wp2_with fail
      refine (commit_g f.g f2 K2.out.g _ _ _ F2.out rfl).mono ?_
      rintro e w6 ⟨rfl, hf, ho⟩
      obtain ⟨f3, hf3⟩ : ∃ x, x = f2.commit (if (kd == 3) then f2.done else f2.safe) := ⟨_, rfl⟩
      have hf' : FieldAt w6 f3 := by rw [hf3]; exact hf
      have K3 : Hid (Like f f3) := K2.out.trans (by rw [hf3]; exact Like.commit _ _)
      have F3 := Lib.hid hf'
      have B3 : Hid (Below w0.heap.size w0 w6) := ho.old B2.out B2.out.size K2.out HLO.out
      clear hf hf' ho hf3 b0
      go_wp2_with fail
      go_roundw
      case rel => exact ⟨k + 1, f3, by omega, by go_num, K3.out, F3.out, B3.out⟩
      case measure => simp [intOf]; omega
    · obtain rfl : bl = k := by omega
      clear hk hlt
      have hnS : Hid (f1.nS = len) := K1.out.nS.trans N.out.nS
      have hnI : Hid (f1.nI = ni) := K1.out.nI.trans N.out.nI
      go_wp2_with fail
      refine (outs_own f.g f1 K1.out.g len hnS.out wr F1.out).mono ?_
      rintro e w5 ⟨oa, oc, rfl, hO, hw⟩
      have O5 := Lib.hid hO.in
      have F5 : Hid (FieldAt w5 f1) := F1.out.below hw
      have B5 : Hid (Below w0.heap.size w0 w5) := B1.out.trans (hw.mono B1.out.size)
      have HHI : Hid (f.hi ≤ wr.heap.size) := by have h1 := F1.out.hi; have h2 := K1.out.hi; show _ ≤ _; omega
      have HZ0 : Hid (w0.heap.size ≤ wr.heap.size) := B1.out.size
      have HZ5 : Hid (wr.heap.size ≤ w5.heap.size) := hw.size
      clear hO hw F1 B1
      generalize wr.heap.size = hz at *
      obtain ⟨⟨d0, d1, d2, d3⟩, dl⟩ := DC.out _ B5.out
      go_wp2_with fail
      by_cases hxn : xl = ni
      case neg =>
        refine (latchbad_g f.g f1 K1.out.g xa xl xc w5 F5.out (by rw [hnI.out]; exact hxn) hxl).mono ?_
        rintro e w' ⟨rfl, rfl⟩
        have t1 : ((xl : Int) == (ni : Int)) = false := by simp; omega
        have t2 : ((xl : Int) != (ni : Int)) = true := by simp; omega
        clear hxn
        go_wp2_with fail
        go_ret
        refine ⟨rfl, ?_⟩
        first | exact HB0.out.trans ((B5.out).mono (Nat.le_of_lt HD.out)) | (rw [HG.out]; exact HB0.out.trans ((B5.out).mono (Nat.le_of_lt HD.out)))
      obtain rfl := hxn
      refine (latch_g f.g f1 K1.out.g xl xa xc X w5 F5.out hnI.out (HX.out.below B5.out) HXl.out).mono ?_
      rintro e w6 ⟨rfl, hf, ho⟩
      obtain ⟨O, hO⟩ : ∃ x, x = f1.outs := ⟨_, rfl⟩
      obtain ⟨f2, hf2⟩ : ∃ x, x = f1.latch X := ⟨_, rfl⟩
      rw [← hf2] at hf
      rw [← hO] at O5
      have K2 : Hid (Like f f2) := K1.out.trans (by rw [hf2]; exact Like.latch _ _)
      have F6 := Lib.hid hf
      have B6 : Hid (Below w0.heap.size w0 w6) := ho.old B5.out B5.out.size K1.out HLO.out
      have E2 : Hid (f2.outs = O) := by show _ = _; rw [hf2, hO]; rfl
      have I2 : Hid (f2.ins = X) := by show _ = _; rw [hf2]; rfl
      have D2 : Hid (∀ i, f2.done i = S i) := fun i => by
        have h1 : f2.has i = false := by rw [hf2]; rfl
        unfold FS.done
        rw [h1, K2.out.safe, N.out.safe]; rfl
      have O6 : Hid (OwnIn w6 hz w5.heap.size oa len (uV O)) := O5.out.only ho fun b h1 _ h2 => by
        have h3 : b < f1.hi := h2.2
        have h4 := K1.out.hi; have h5 := HHI.out; omega
      have HZ6 : Hid (w5.heap.size ≤ w6.heap.size) := ho.size
      clear hf ho hf2 hO O5 F5 B5 d0 d1 d2 d3 dl
      generalize w5.heap.size = hy at *
      obtain ⟨⟨d0, d1, d2, d3⟩, dl⟩ := DC.out _ B6.out
      have HE0 : Hid ((w6.alloc (.cells #[] 23)).heap[w6.heap.size]? = some (.cells #[] 23 (0, 0))) := heap_alloc_new _ _
      have HS6 : Hid (SliceAt (w6.alloc (.cells #[] 23)) a len (uV S)) := HS.out.below (B6.out.alloc B6.out.size _)
      go_wp2_with (at_builtin; refine wpList_words rfl _ _ rfl (gs := w6.heap.size) rfl HE0.out a len cap S rfl (by omega) HS6.out ?_)
      intro v w7 hws
      obtain ⟨⟨bw, ⟨aw, cw, rfl, hcw, hmw, hrow⟩, hbw⟩, hgr⟩ := hws
      have Y7 : Hid (Below w6.heap.size w6 w7) := ((Below.refl _ w6).alloc (Nat.le_refl _) _).grown hgr (by simp) (fun k e => by cases e; exact Nat.le_refl _)
      have HAW : Hid (0 < len → aw = some ⟨bw, 0, none⟩) := fun hp => (hrow hp).1
      have R7 : Hid (0 < len → RowAt w7 bw 23 len (uV f2.done)) := fun hp => (hrow hp).2.congr (fun i _ => by unfold uV; rw [D2.out i])
      have HBW : Hid (0 < len → hy ≤ bw) := fun hp => Nat.le_trans HZ6.out (hbw hp).1
      have F7 : Hid (FieldAt w7 f2) := F6.out.below Y7.out
      have O7 : Hid (OwnIn w7 hz hy oa len (uV O)) := O6.out.below Y7.out
      have B7 : Hid (Below w0.heap.size w0 w7) := B6.out.trans (Y7.out.mono B6.out.size)
      clear hrow hbw hgr HE0 HS6 Y7 F6 O6 B6 d0 d1 d2 d3 dl HZ6
      go_wp2_with fail
      go_loopw [79] (fun i wr => ∃ k : Nat, ∃ f' : FS, k ≤ fl ∧ i = .int .i64 k ∧ Like f f' ∧ FieldAt wr f' ∧ f'.outs = O ∧ f'.ins = X ∧ (0 < len → RowAt wr bw 23 len (uV f'.done)) ∧ OwnIn wr hz hy oa len (uV O) ∧ Below w0.heap.size w0 wr) (fun i _ => fl - (intOf i).toNat)
      case atStart => exact ⟨0, f2, Nat.zero_le _, rfl, K2.out, F7.out, E2.out, I2.out, R7.out, O7.out, B7.out⟩
      case round =>
        clear F7 E2 I2 R7 O7 B7 K2 D2 K1 hnS hnI
        clear f2 f1
        obtain ⟨k, f1, hk, rfl, hl, hF, hE, hI, hR', hO, hBl⟩ := hrel
        have K1 := Lib.hid hl; have F1 := Lib.hid hF; have B1 := Lib.hid hBl
        have E1 : Hid (f1.outs = O) := hE
        have I1 : Hid (f1.ins = X) := hI
        have R1 := Lib.hid hR'; have O1 := Lib.hid hO
        clear hl hF hBl hE hI hR' hO
        by_cases hlt : k < fl
        · skip
          obtain ⟨sb, soff, rfl, hsl, hcells⟩ := HR.out.1.at (by omega)
          have x0 : wr.cell? ⟨sb, soff + k * 5, none⟩ = some (.int .i64 (R k).kind) := by rw [B1.out.cell hsl]; exact hcells k hlt 0 (by omega)
          have x1 : wr.cell? ⟨sb, soff + k * 5 + 1, none⟩ = some (.int .i64 (R k).part) := by rw [B1.out.cell hsl]; exact hcells k hlt 1 (by omega)
          have x2 : wr.cell? ⟨sb, soff + k * 5 + 2, none⟩ = some (.int .i64 (R k).n) := by rw [B1.out.cell hsl]; exact hcells k hlt 2 (by omega)
          have x3 : wr.cell? ⟨sb, soff + k * 5 + 3, none⟩ = some (.int .u32 ((R k).x : Int)) := by rw [B1.out.cell hsl]; exact hcells k hlt 3 (by omega)
          have x4 : wr.cell? ⟨sb, soff + k * 5 + 4, none⟩ = some (.slice (R k).la (R k).ll (R k).lc) := by rw [B1.out.cell hsl]; exact hcells k hlt 4 (by omega)
          clear hcells
          have hxx := Lib.hid (HR.out.2 k).x
          have hqq := Lib.hid (HR.out.2 k).part
          have hnn := Lib.hid (HR.out.2 k).n
          generalize (R k).kind = kd at *
          generalize (R k).part = q at *
          generalize (R k).n = nv at *
          generalize (R k).x = xx at *
          generalize (R k).la = la at *
          generalize (R k).ll = ll at *
          generalize (R k).lc = lc at *
          have HBA : Hid (Below w0.heap.size w0 (wr.alloc (.cells #[.int .i64 kd, .int .i64 q, .int .i64 nv, .int .u32 (xx : Int), .slice la ll lc] 38))) := B1.out.alloc B1.out.size _
          have HBO : Hid ((wr.alloc (.cells #[.int .i64 kd, .int .i64 q, .int .i64 nv, .int .u32 (xx : Int), .slice la ll lc] 38)).heap[wr.heap.size]? = some (.cells #[.int .i64 kd, .int .i64 q, .int .i64 nv, .int .u32 (xx : Int), .slice la ll lc] 38 (0, 0))) := heap_alloc_new _ _
          have HBN : Hid (Below wr.heap.size wr (wr.alloc (.cells #[.int .i64 kd, .int .i64 q, .int .i64 nv, .int .u32 (xx : Int), .slice la ll lc] 38))) := alloc_below _ _
          have FA : Hid (FieldAt _ f1) := F1.out.below HBN.out
          have RA : Hid (0 < len → RowAt _ bw 23 len (uV f1.done)) := fun hp => (R1.out hp).same (HBN.out.block _ (R1.out hp).lt)
          have OA : Hid (OwnIn _ hz hy oa len (uV O)) := O1.out.below HBN.out
          have HNM : Hid (¬ f1.M wr.heap.size) := fun h => by have h1 := F1.out.hi; have h2 : wr.heap.size < f1.hi := h.2; omega
          have HNB : Hid (0 < len → bw < wr.heap.size) := fun hp => (R1.out hp).lt
          go_wp2_with fail
          generalize wr.alloc (.cells #[.int .i64 kd, .int .i64 q, .int .i64 nv, .int .u32 (xx : Int), .slice la ll lc] 38) = wa at *
          generalize hgb : wr.heap.size = gb at *
          have HGB := Lib.hid hgb
          clear hgb
          clear x0 x1 x2 x3 x4 F1 R1 O1 B1
          by_cases hE : outE f1 q nv = 0
          · obtain ⟨h1, h2, h3⟩ := outE_zero hE
            obtain ⟨m, rfl⟩ := Int.eq_ofNat_of_zero_le h2
            have hwr : wt = q := by rw [h1, K1.out.wr, N.out.wr]
            have hm : m < len := by rw [K1.out.nS, N.out.nS] at h3; omega
            clear h1 h2 h3
            obtain rfl := hwr
            refine (out_g f.g f1 K1.out.g wt m xx wa FA.out hxx.out hE).mono ?_
            rintro e w5 ⟨rfl, hf, ho⟩
            obtain ⟨f2, hf2⟩ : ∃ x, x = f1.outP (Int.toNat (m : Int)) xx := ⟨_, rfl⟩
            rw [← hf2] at hf
            have hmt : Int.toNat (m : Int) = m := Int.toNat_natCast m
            rw [hmt] at hf2
            have K2 : Hid (Like f f2) := K1.out.trans (by rw [hf2]; exact Like.outP _ _ _)
            have E2 : Hid (f2.outs = O) := by show _ = _; rw [hf2]; exact E1.out
            have I2 : Hid (f2.ins = X) := by show _ = _; rw [hf2]; exact I1.out
            have D2 : Hid (∀ j, f2.done j = if j = m then xx else f1.done j) := fun j => by
              rw [hf2]; unfold FS.done FS.outP
              by_cases e : j = m
              · simp [e]
              · simp [e]
            have hbz := HBW.out (show 0 < len by omega)
            have hz5 := HZ5.out; have hhi := HHI.out; have hz0 := HZ0.out
            have k1hi := K1.out.hi; have k2hi := K2.out.hi; have k2lo := K2.out.lo
            have hM1 : ∀ b, f1.M b → b < hz := fun b h => by have h1 : b < f1.hi := h.2; omega
            have hM2 : ∀ b, f2.M b → b < hz := fun b h => by have h1 : b < f2.hi := h.2; omega
            have hra := RA.out (show 0 < len by omega)
            have hrb := hra.same (ho.block bw hra.lt (fun h => by have := hM1 _ h; omega))
            have hoB := OA.out.only ho (fun b h1 h2 h => by have := hM1 _ h; omega)
            have hbo := (ho.block gb (heap_lt HBO.out) HNM.out).trans HBO.out
            have b1 : w5.cell? ⟨gb, 1, none⟩ = some (.int .i64 wt) := cell_row hbo rfl
            have b2 : w5.cell? ⟨gb, 2, none⟩ = some (.int .i64 m) := cell_row hbo rfl
            have b3 : w5.cell? ⟨gb, 3, none⟩ = some (.int .u32 (xx : Int)) := cell_row hbo rfl
            have bgl : gb < w5.heap.size := heap_lt hbo
            have hB5 : Below w0.heap.size w0 w5 := ho.old HBA.out HBA.out.size K1.out HLO.out
            obtain ⟨⟨d0, d1, d2, d3⟩, dl⟩ := DC.out _ hB5
            have aw' := HAW.out (show 0 < len by omega)
            subst aw'
            have c1 := hrb.cell hm
            have fz := hrb.frozen m
            have bwl := hrb.lt
            have hgbw : bw < gb := by have h1 := HNB.out (show 0 < len by omega); exact h1
            have hOW : Only (fun b => b = bw) w5 (w5.setCell ⟨bw, m, none⟩ (.int .u32 (xx : Int))) := (Only.refl _ _).set m _ (.inr rfl)
            have hbs := N.out.bs (show 0 < len by omega)
            have k2bs := K2.out.bs
            have F6 : Hid (FieldAt (w5.setCell ⟨bw, m, none⟩ (.int .u32 (xx : Int))) f2) := hf.only hOW (fun b h e => by have h1 := hM2 _ h; have h2 : b = bw := e; omega) (fun hp e => by have h1 := hf.ok.g; have h2 : f2.bs = bw := e; omega)
            have R6 : Hid (0 < len → RowAt (w5.setCell ⟨bw, m, none⟩ (.int .u32 (xx : Int))) bw 23 len (uV f2.done)) := fun _ => (hrb.set _).congr (fun j _ => by
              unfold uV; rw [D2.out j]
              by_cases e : j = m
              · simp [e]
              · simp [e])
            have O6 : Hid (OwnIn (w5.setCell ⟨bw, m, none⟩ (.int .u32 (xx : Int))) hz hy oa len (uV O)) := hoB.only hOW (fun b h1 h2 e => by have h3 : b = bw := e; omega)
            have B6 : Hid (Below w0.heap.size w0 (w5.setCell ⟨bw, m, none⟩ (.int .u32 (xx : Int)))) := hB5.trans (hOW.below hB5.size (fun i hi e => by have h3 : i = bw := e; omega))
            have G6 : Hid ((w5.setCell ⟨bw, m, none⟩ (.int .u32 (xx : Int))).heap[gb]? = some (.cells #[.int .i64 kd, .int .i64 wt, .int .i64 m, .int .u32 (xx : Int), .slice la ll lc] 38 (0, 0))) := (hOW.block gb (heap_lt hbo) (fun e => by have h3 : gb = bw := e; omega)).trans hbo
            have hgbw2 : gb ≠ bw := by omega
            have hgbw3 : bw ≠ gb := by omega
            have T1 : decide ((m : Int) < 0) = false := by first | (simp; done) | (simp; omega)
            have T2 : decide ((len : Int) ≤ (m : Int)) = false := by first | (simp; done) | (simp; omega)
            have T3 : (wt == wt) = true := by simp
            have T4 : (wt != wt) = false := by simp
            have hmi : (m : Int) < (len : Int) := by omega
            clear hE hf2 hmt D2 hbz hz5 hhi hz0 k1hi k2hi k2lo hM1 hM2 hra hoB hB5 hOW hbs k2bs hf ho FA RA OA HBA HBO HBN HNM HNB E1 I1 HGB hgbw K1
            unfold uV at c1
            generalize f1.done m = old at *
            clear hrb hbo
            go_wp2_with fail
            generalize w5.setCell ⟨bw, m, none⟩ (.int .u32 (xx : Int)) = w6 at *
            clear b1 b2 b3 bgl d0 d1 d2 d3 dl c1 fz bwl hgbw2 hgbw3 T1 T2 T3 T4 hmi
            have RX := R6; have OX := O6
            by_cases hI : inE f2 wt (m : Int) = 0
            · skip
              refine (in_g f.g f2 K2.out.g wt (m : Int) (X m) w6 F6.out hI (by rw [I2.out, Int.toNat_natCast])).mono ?_
              rintro e w' ⟨rfl, rfl⟩
              have hmx : m < xl := by have h1 := (inE_zero hI).2; rw [K2.out.nI, N.out.nI] at h1; omega
              obtain ⟨xb, xo, rfl, hxlt, hxc⟩ := HX.out.at (show 0 < xl by omega)
              have cx : w6.cell? ⟨xb, xo + m, none⟩ = some (.int .u32 ((X m : Nat) : Int)) := by rw [B6.out.cell hxlt]; exact hxc m hmx
              have xbl : xb < w6.heap.size := Nat.lt_of_lt_of_le hxlt B6.out.size
              have T5 : decide ((m : Int) < 0) = false := by first | (simp; done) | (simp; omega)
              have T6 : decide ((xl : Int) ≤ (m : Int)) = false := by first | (simp; done) | (simp; omega)
              have T7 : (m : Int) < (xl : Int) := by omega
              clear hxc hI
              generalize X m = xv at *
              have g1 : w6.cell? ⟨gb, 1, none⟩ = some (.int .i64 wt) := cell_row G6.out rfl
              have g2 : w6.cell? ⟨gb, 2, none⟩ = some (.int .i64 (m : Int)) := cell_row G6.out rfl
              have g3 : gb < w6.heap.size := heap_lt G6.out
              go_wp2_with fail
              refine (outs_g f.g f2 K2.out.g len O w6 F6.out (K2.out.nS.trans N.out.nS) (fun i _ => by rw [E2.out])).mono ?_
              rintro e w8 ⟨a8, c8, rfl, hs8, hb8⟩
              have S8 := Lib.hid hs8
              have B8 : Hid (Below w0.heap.size w0 w8) := B6.out.trans (hb8.mono B6.out.size)
              have Y8 : Hid (Below w6.heap.size w6 w8) := hb8
              clear hs8 hb8
              go_wp2_with fail
              refine (same_true a8 oa len c8 oc O O w8 (by omega) S8.out (OX.out.below Y8.out).at (fun _ _ => rfl)).mono ?_
              rintro e w9 ⟨rfl, hb9⟩
              have B9 : Hid (Below w0.heap.size w0 w9) := B8.out.trans (hb9.mono B8.out.size)
              have Y9 : Hid (Below w6.heap.size w6 w9) := Y8.out.trans (hb9.mono Y8.out.size)
              clear hb9
              go_wp2_with fail
              refine (ins_g f.g f2 K2.out.g xl X w9 (F6.out.below Y9.out) (K2.out.nI.trans N.out.nI) (fun i _ => by rw [I2.out])).mono ?_
              rintro e w10 ⟨a10, c10, rfl, hs10, hb10⟩
              have S10 := Lib.hid hs10
              have B10 : Hid (Below w0.heap.size w0 w10) := B9.out.trans (hb10.mono B9.out.size)
              have Y10 : Hid (Below w6.heap.size w6 w10) := Y9.out.trans (hb10.mono Y9.out.size)
              clear hs10 hb10
              go_wp2_with fail
              refine (same_true a10 _ xl c10 xc X X w10 (by have := HMAY.out.2.1; omega) S10.out (HX.out.below B10.out) (fun _ _ => rfl)).mono ?_
              rintro e w11 ⟨rfl, hb11⟩
              have B11 : Hid (Below w0.heap.size w0 w11) := B10.out.trans (hb11.mono B10.out.size)
              have Y11 : Hid (Below w6.heap.size w6 w11) := Y10.out.trans (hb11.mono Y10.out.size)
              clear hb11
              go_wp2_with fail
              go_roundw
              case rel => exact ⟨k + 1, f2, by omega, by go_num, K2.out, F6.out.below Y11.out, E2.out, I2.out, fun hp => (RX.out hp).same (Y11.out.block _ (RX.out hp).lt), OX.out.below Y11.out, B11.out⟩
              case measure => simp [intOf]; omega
            · skip
              obtain ⟨EI, hEI⟩ : ∃ x, inE f2 wt (m : Int) = x := ⟨_, rfl⟩
              refine (inbad_g f.g f2 K2.out.g wt (m : Int) w6 F6.out hqq.out.2 hnn.out.1 hnn.out.2 EI hEI (by rw [← hEI]; exact hI)).mono ?_
              rintro e w' ⟨rfl, rfl⟩
              have T5 : (EI == 0) = false := by rw [← hEI]; simpa using hI
              clear hEI hI
              have g1 : w6.cell? ⟨gb, 1, none⟩ = some (.int .i64 wt) := cell_row G6.out rfl
              have g2 : w6.cell? ⟨gb, 2, none⟩ = some (.int .i64 (m : Int)) := cell_row G6.out rfl
              have g3 : gb < w6.heap.size := heap_lt G6.out
              go_wp2_with fail
              refine (outs_g f.g f2 K2.out.g len O w6 F6.out (K2.out.nS.trans N.out.nS) (fun i _ => by rw [E2.out])).mono ?_
              rintro e w8 ⟨a8, c8, rfl, hs8, hb8⟩
              have S8 := Lib.hid hs8
              have B8 : Hid (Below w0.heap.size w0 w8) := B6.out.trans (hb8.mono B6.out.size)
              have Y8 : Hid (Below w6.heap.size w6 w8) := hb8
              clear hs8 hb8
              go_wp2_with fail
              refine (same_true a8 oa len c8 oc O O w8 (by omega) S8.out (OX.out.below Y8.out).at (fun _ _ => rfl)).mono ?_
              rintro e w9 ⟨rfl, hb9⟩
              have B9 : Hid (Below w0.heap.size w0 w9) := B8.out.trans (hb9.mono B8.out.size)
              have Y9 : Hid (Below w6.heap.size w6 w9) := Y8.out.trans (hb9.mono Y8.out.size)
              clear hb9
              go_wp2_with fail
              refine (ins_g f.g f2 K2.out.g xl X w9 (F6.out.below Y9.out) (K2.out.nI.trans N.out.nI) (fun i _ => by rw [I2.out])).mono ?_
              rintro e w10 ⟨a10, c10, rfl, hs10, hb10⟩
              have S10 := Lib.hid hs10
              have B10 : Hid (Below w0.heap.size w0 w10) := B9.out.trans (hb10.mono B9.out.size)
              have Y10 : Hid (Below w6.heap.size w6 w10) := Y9.out.trans (hb10.mono Y9.out.size)
              clear hs10 hb10
              go_wp2_with fail
              refine (same_true a10 _ xl c10 xc X X w10 (by have := HMAY.out.2.1; omega) S10.out (HX.out.below B10.out) (fun _ _ => rfl)).mono ?_
              rintro e w11 ⟨rfl, hb11⟩
              have B11 : Hid (Below w0.heap.size w0 w11) := B10.out.trans (hb11.mono B10.out.size)
              have Y11 : Hid (Below w6.heap.size w6 w11) := Y10.out.trans (hb11.mono Y10.out.size)
              clear hb11
              go_wp2_with fail
              go_roundw
              case rel => exact ⟨k + 1, f2, by omega, by go_num, K2.out, F6.out.below Y11.out, E2.out, I2.out, fun hp => (RX.out hp).same (Y11.out.block _ (RX.out hp).lt), OX.out.below Y11.out, B11.out⟩
              case measure => simp [intOf]; omega
          · obtain ⟨EO, hEO⟩ : ∃ x, outE f1 q nv = x := ⟨_, rfl⟩
            refine (outbad_g f.g f1 K1.out.g q nv (xx : Int) wa FA.out hnn.out.1 hnn.out.2 EO hEO (by rw [← hEO]; exact hE)).mono ?_
            rintro e w' ⟨rfl, rfl⟩
            have T1 : (EO == 0) = false := by rw [← hEO]; simpa using hE
            clear hEO hE
            have b1 : wa.cell? ⟨gb, 1, none⟩ = some (.int .i64 q) := cell_row HBO.out rfl
            have b2 : wa.cell? ⟨gb, 2, none⟩ = some (.int .i64 nv) := cell_row HBO.out rfl
            have bgl : gb < wa.heap.size := heap_lt HBO.out
            go_wp2_with fail
            clear b1 b2 bgl T1
            have RX := RA; have OX := OA
            by_cases hI : inE f1 q nv = 0
            · obtain ⟨m, rfl⟩ := Int.eq_ofNat_of_zero_le (inE_zero hI).1
              refine (in_g f.g f1 K1.out.g q (m : Int) (X m) wa FA.out hI (by rw [I1.out, Int.toNat_natCast])).mono ?_
              rintro e w' ⟨rfl, rfl⟩
              have hmx : m < xl := by have h1 := (inE_zero hI).2; rw [K1.out.nI, N.out.nI] at h1; omega
              obtain ⟨xb, xo, rfl, hxlt, hxc⟩ := HX.out.at (show 0 < xl by omega)
              have cx : wa.cell? ⟨xb, xo + m, none⟩ = some (.int .u32 ((X m : Nat) : Int)) := by rw [HBA.out.cell hxlt]; exact hxc m hmx
              have xbl : xb < wa.heap.size := Nat.lt_of_lt_of_le hxlt HBA.out.size
              have T5 : decide ((m : Int) < 0) = false := by first | (simp; done) | (simp; omega)
              have T6 : decide ((xl : Int) ≤ (m : Int)) = false := by first | (simp; done) | (simp; omega)
              have T7 : (m : Int) < (xl : Int) := by omega
              clear hxc hI
              generalize X m = xv at *
              have g1 : wa.cell? ⟨gb, 1, none⟩ = some (.int .i64 q) := cell_row HBO.out rfl
              have g2 : wa.cell? ⟨gb, 2, none⟩ = some (.int .i64 (m : Int)) := cell_row HBO.out rfl
              have g3 : gb < wa.heap.size := heap_lt HBO.out
              go_wp2_with fail
              refine (outs_g f.g f1 K1.out.g len O wa FA.out (K1.out.nS.trans N.out.nS) (fun i _ => by rw [E1.out])).mono ?_
              rintro e w8 ⟨a8, c8, rfl, hs8, hb8⟩
              have S8 := Lib.hid hs8
              have B8 : Hid (Below w0.heap.size w0 w8) := HBA.out.trans (hb8.mono HBA.out.size)
              have Y8 : Hid (Below wa.heap.size wa w8) := hb8
              clear hs8 hb8
              go_wp2_with fail
              refine (same_true a8 oa len c8 oc O O w8 (by omega) S8.out (OX.out.below Y8.out).at (fun _ _ => rfl)).mono ?_
              rintro e w9 ⟨rfl, hb9⟩
              have B9 : Hid (Below w0.heap.size w0 w9) := B8.out.trans (hb9.mono B8.out.size)
              have Y9 : Hid (Below wa.heap.size wa w9) := Y8.out.trans (hb9.mono Y8.out.size)
              clear hb9
              go_wp2_with fail
              refine (ins_g f.g f1 K1.out.g xl X w9 (FA.out.below Y9.out) (K1.out.nI.trans N.out.nI) (fun i _ => by rw [I1.out])).mono ?_
              rintro e w10 ⟨a10, c10, rfl, hs10, hb10⟩
              have S10 := Lib.hid hs10
              have B10 : Hid (Below w0.heap.size w0 w10) := B9.out.trans (hb10.mono B9.out.size)
              have Y10 : Hid (Below wa.heap.size wa w10) := Y9.out.trans (hb10.mono Y9.out.size)
              clear hs10 hb10
              go_wp2_with fail
              refine (same_true a10 _ xl c10 xc X X w10 (by have := HMAY.out.2.1; omega) S10.out (HX.out.below B10.out) (fun _ _ => rfl)).mono ?_
              rintro e w11 ⟨rfl, hb11⟩
              have B11 : Hid (Below w0.heap.size w0 w11) := B10.out.trans (hb11.mono B10.out.size)
              have Y11 : Hid (Below wa.heap.size wa w11) := Y10.out.trans (hb11.mono Y10.out.size)
              clear hb11
              go_wp2_with fail
              go_roundw
              case rel => exact ⟨k + 1, f1, by omega, by go_num, K1.out, FA.out.below Y11.out, E1.out, I1.out, fun hp => (RX.out hp).same (Y11.out.block _ (RX.out hp).lt), OX.out.below Y11.out, B11.out⟩
              case measure => simp [intOf]; omega
            · skip
              obtain ⟨EI, hEI⟩ : ∃ x, inE f1 q nv = x := ⟨_, rfl⟩
              refine (inbad_g f.g f1 K1.out.g q nv wa FA.out hqq.out.2 hnn.out.1 hnn.out.2 EI hEI (by rw [← hEI]; exact hI)).mono ?_
              rintro e w' ⟨rfl, rfl⟩
              have T5 : (EI == 0) = false := by rw [← hEI]; simpa using hI
              clear hEI hI
              have g1 : wa.cell? ⟨gb, 1, none⟩ = some (.int .i64 q) := cell_row HBO.out rfl
              have g2 : wa.cell? ⟨gb, 2, none⟩ = some (.int .i64 nv) := cell_row HBO.out rfl
              have g3 : gb < wa.heap.size := heap_lt HBO.out
              go_wp2_with fail
              refine (outs_g f.g f1 K1.out.g len O wa FA.out (K1.out.nS.trans N.out.nS) (fun i _ => by rw [E1.out])).mono ?_
              rintro e w8 ⟨a8, c8, rfl, hs8, hb8⟩
              have S8 := Lib.hid hs8
              have B8 : Hid (Below w0.heap.size w0 w8) := HBA.out.trans (hb8.mono HBA.out.size)
              have Y8 : Hid (Below wa.heap.size wa w8) := hb8
              clear hs8 hb8
              go_wp2_with fail
              refine (same_true a8 oa len c8 oc O O w8 (by omega) S8.out (OX.out.below Y8.out).at (fun _ _ => rfl)).mono ?_
              rintro e w9 ⟨rfl, hb9⟩
              have B9 : Hid (Below w0.heap.size w0 w9) := B8.out.trans (hb9.mono B8.out.size)
              have Y9 : Hid (Below wa.heap.size wa w9) := Y8.out.trans (hb9.mono Y8.out.size)
              clear hb9
              go_wp2_with fail
              refine (ins_g f.g f1 K1.out.g xl X w9 (FA.out.below Y9.out) (K1.out.nI.trans N.out.nI) (fun i _ => by rw [I1.out])).mono ?_
              rintro e w10 ⟨a10, c10, rfl, hs10, hb10⟩
              have S10 := Lib.hid hs10
              have B10 : Hid (Below w0.heap.size w0 w10) := B9.out.trans (hb10.mono B9.out.size)
              have Y10 : Hid (Below wa.heap.size wa w10) := Y9.out.trans (hb10.mono Y9.out.size)
              clear hs10 hb10
              go_wp2_with fail
              refine (same_true a10 _ xl c10 xc X X w10 (by have := HMAY.out.2.1; omega) S10.out (HX.out.below B10.out) (fun _ _ => rfl)).mono ?_
              rintro e w11 ⟨rfl, hb11⟩
              have B11 : Hid (Below w0.heap.size w0 w11) := B10.out.trans (hb11.mono B10.out.size)
              have Y11 : Hid (Below wa.heap.size wa w11) := Y10.out.trans (hb11.mono Y10.out.size)
              clear hb11
              go_wp2_with fail
              go_roundw
              case rel => exact ⟨k + 1, f1, by omega, by go_num, K1.out, FA.out.below Y11.out, E1.out, I1.out, fun hp => (RX.out hp).same (Y11.out.block _ (RX.out hp).lt), OX.out.below Y11.out, B11.out⟩
              case measure => simp [intOf]; omega
        · obtain rfl : fl = k := by omega
          clear hk hlt
          have RW : Hid (SliceAt wr aw len (uV f1.done)) := by
            by_cases hp : 0 < len
            · rw [HAW.out hp]
              exact .inr ⟨bw, 0, rfl, (R1.out hp).lt, fun i hi => by rw [Nat.zero_add]; exact (R1.out hp).cell hi⟩
            · exact .inl (by omega)
          go_wp2_with fail
          refine (commit_g f.g f1 K1.out.g ok (if ok then f1.done else f1.safe) wr F1.out rfl).mono ?_
          rintro e w5 ⟨rfl, hf, ho⟩
          obtain ⟨f2, hf2⟩ : ∃ x, x = f1.commit (if ok then f1.done else f1.safe) := ⟨_, rfl⟩
          rw [← hf2] at hf
          have K2 : Hid (Like f f2) := K1.out.trans (by rw [hf2]; exact Like.commit _ _)
          have F2 := Lib.hid hf
          have B5 : Hid (Below w0.heap.size w0 w5) := ho.old B1.out B1.out.size K1.out HLO.out
          have A2 : Hid (f2.has = fun _ => false) := by show _ = _; rw [hf2]; rfl
          have O0 : Hid (∀ i, i < len → f2.outs i = (if ok then f1.done else f1.safe) i) := fun i hi => by
            rw [hf2]
            show (if i < f1.nS then (if ok then f1.done else f1.safe) i else f1.outs i) = _
            rw [if_pos (by rw [K1.out.nS, N.out.nS]; exact hi)]
          have R5 : Hid (SliceAt w5 aw len (uV f1.done)) := by
            by_cases hp : 0 < len
            · refine RW.out.only ho fun b off e _ h => ?_
              have e' := HAW.out hp
              rw [e'] at e
              cases e
              have h1 : bw < f1.hi := h.2
              have h2 := HBW.out hp; have h3 := HZ5.out; have h4 := HHI.out; have h5 := K1.out.hi
              omega
            · exact .inl (by omega)
          clear hf ho hf2 RW R1 F1
          obtain ⟨⟨d0, d1, d2, d3⟩, dl⟩ := DC.out _ B5.out
          cases ok
          case false =>
            have O2 : Hid (∀ i, i < len → f2.outs i = S i) := fun i hi => by
              rw [O0.out i hi]
              show f1.safe i = S i
              rw [K1.out.safe, N.out.safe]
            clear O0
            go_wp2_with fail
            clear d0 d1 d2 d3 dl
            refine (outs_g f.g f2 K2.out.g len S w5 F2.out (K2.out.nS.trans N.out.nS) O2.out).mono ?_
            rintro e w8 ⟨a8, c8, rfl, hs8, hb8⟩
            have S8 := Lib.hid hs8
            have B8 : Hid (Below w0.heap.size w0 w8) := B5.out.trans (hb8.mono B5.out.size)
            have F8 : Hid (FieldAt w8 f2) := F2.out.below hb8
            have Y8 : Hid (Below w5.heap.size w5 w8) := hb8
            clear hs8 hb8
            go_wp2_with fail
            refine (same_true a8 a len c8 cap S S w8 (by omega) S8.out (HS.out.below B8.out) (fun _ _ => rfl)).mono ?_
            rintro e w9 ⟨rfl, hb9⟩
            have B9 : Hid (Below w0.heap.size w0 w9) := B8.out.trans (hb9.mono B8.out.size)
            have F9 : Hid (FieldAt w9 f2) := F8.out.below hb9
            clear hb9
            go_wp2_with fail
            refine (commit_g f.g f2 K2.out.g true f2.done w9 F9.out rfl).mono ?_
            rintro e w10 ⟨rfl, hf, ho⟩
            obtain ⟨f3, hf3⟩ : ∃ x, x = f2.commit f2.done := ⟨_, rfl⟩
            rw [← hf3] at hf
            have K3 : Hid (Like f f3) := K2.out.trans (by rw [hf3]; exact Like.commit _ _)
            have F10 : Hid (FieldAt w10.drew f3) := hf.below (Below.refl _ w10).drew
            have B10 : Hid (Below w0.heap.size w0 w10.drew) := (ho.old B9.out B9.out.size K2.out HLO.out).drew
            have O3 : Hid (∀ i, i < len → f3.outs i = S i) := fun i hi => by
              rw [hf3]
              show (if i < f2.nS then f2.done i else f2.outs i) = _
              rw [if_pos (by rw [K2.out.nS, N.out.nS]; exact hi)]
              unfold FS.done
              rw [A2.out, K2.out.safe, N.out.safe]; rfl
            clear hf ho hf3
            go_wp2_with fail
            go_region_held3 (fun V => V.cell? ⟨gd, 1, none⟩ = some (.slice a len cap) ∧ gd < V.heap.size)
              (first | exact ⟨(DC.out _ B13.out).1.2.1, (DC.out _ B13.out).2⟩ | exact ⟨(DC.out _ B12.out).1.2.1, (DC.out _ B12.out).2⟩ | exact ⟨(DC.out _ B10.out).1.2.1, (DC.out _ B10.out).2⟩)
              (first
                | (go_at_call 20; (with_reducible refine (same_true a12 a len c12 cap S S w12 (by omega) S12.out (HS.out.below B12.out) (fun _ _ => rfl)).mono ?_); rintro e w13 ⟨rfl, hb13⟩; have B13 : Hid (Below w0.heap.size w0 w13) := B12.out.trans (hb13.mono B12.out.size); clear hb13)
                | (go_at_call 22; (with_reducible refine (outs_g f.g f3 K3.out.g len S w10.drew F10.out (K3.out.nS.trans N.out.nS) O3.out).mono ?_); rintro e w12 ⟨a12, c12, rfl, hs12, hb12⟩; have S12 := Lib.hid hs12; have B12 : Hid (Below w0.heap.size w0 w12) := B10.out.trans (hb12.mono B10.out.size); clear hs12 hb12))
            go_wp2_with fail
            go_ret
            refine ⟨rfl, ?_⟩
            first | exact HB0.out.trans ((B13.out).mono (Nat.le_of_lt HD.out)) | (rw [HG.out]; exact HB0.out.trans ((B13.out).mono (Nat.le_of_lt HD.out)))
          case true =>
            have O2 : Hid (∀ i, i < len → f2.outs i = f1.done i) := fun i hi => O0.out i hi
            clear O0
            go_wp2_with fail
            clear d0 d1 d2 d3 dl
            refine (outs_g f.g f2 K2.out.g len f1.done w5 F2.out (K2.out.nS.trans N.out.nS) O2.out).mono ?_
            rintro e w8 ⟨a8, c8, rfl, hs8, hb8⟩
            have S8 := Lib.hid hs8
            have B8 : Hid (Below w0.heap.size w0 w8) := B5.out.trans (hb8.mono B5.out.size)
            have F8 : Hid (FieldAt w8 f2) := F2.out.below hb8
            have Y8 : Hid (Below w5.heap.size w5 w8) := hb8
            clear hs8 hb8
            go_wp2_with fail
            refine (same_true a8 aw len c8 cw f1.done f1.done w8 (by omega) S8.out (R5.out.below Y8.out) (fun _ _ => rfl)).mono ?_
            rintro e w9 ⟨rfl, hb9⟩
            have B9 : Hid (Below w0.heap.size w0 w9) := B8.out.trans (hb9.mono B8.out.size)
            have F9 : Hid (FieldAt w9 f2) := F8.out.below hb9
            clear hb9
            go_wp2_with fail
            refine (commit_g f.g f2 K2.out.g true f2.done w9 F9.out rfl).mono ?_
            rintro e w10 ⟨rfl, hf, ho⟩
            obtain ⟨f3, hf3⟩ : ∃ x, x = f2.commit f2.done := ⟨_, rfl⟩
            rw [← hf3] at hf
            have K3 : Hid (Like f f3) := K2.out.trans (by rw [hf3]; exact Like.commit _ _)
            have F10 : Hid (FieldAt w10.drew f3) := hf.below (Below.refl _ w10).drew
            have B10 : Hid (Below w0.heap.size w0 w10.drew) := (ho.old B9.out B9.out.size K2.out HLO.out).drew
            have O3 : Hid (∀ i, i < len → f3.outs i = S i) := fun i hi => by
              rw [hf3]
              show (if i < f2.nS then f2.done i else f2.outs i) = _
              rw [if_pos (by rw [K2.out.nS, N.out.nS]; exact hi)]
              unfold FS.done
              rw [A2.out, K2.out.safe, N.out.safe]; rfl
            clear hf ho hf3
            go_wp2_with fail
            go_region_held3 (fun V => V.cell? ⟨gd, 1, none⟩ = some (.slice a len cap) ∧ gd < V.heap.size)
              (first | exact ⟨(DC.out _ B13.out).1.2.1, (DC.out _ B13.out).2⟩ | exact ⟨(DC.out _ B12.out).1.2.1, (DC.out _ B12.out).2⟩ | exact ⟨(DC.out _ B10.out).1.2.1, (DC.out _ B10.out).2⟩)
              (first
                | (go_at_call 20; (with_reducible refine (same_true a12 a len c12 cap S S w12 (by omega) S12.out (HS.out.below B12.out) (fun _ _ => rfl)).mono ?_); rintro e w13 ⟨rfl, hb13⟩; have B13 : Hid (Below w0.heap.size w0 w13) := B12.out.trans (hb13.mono B12.out.size); clear hb13)
                | (go_at_call 22; (with_reducible refine (outs_g f.g f3 K3.out.g len S w10.drew F10.out (K3.out.nS.trans N.out.nS) O3.out).mono ?_); rintro e w12 ⟨a12, c12, rfl, hs12, hb12⟩; have S12 := Lib.hid hs12; have B12 : Hid (Below w0.heap.size w0 w12) := B10.out.trans (hb12.mono B10.out.size); clear hs12 hb12))
            go_wp2_with fail
            go_ret
            refine ⟨rfl, ?_⟩
            first | exact HB0.out.trans ((B13.out).mono (Nat.le_of_lt HD.out)) | (rw [HG.out]; exact HB0.out.trans ((B13.out).mono (Nat.le_of_lt HD.out)))
end Go.Proofs.Ytdelcndaogjngaa
