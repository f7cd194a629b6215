/- The order of a frame. -/
import Derived.Test.YtnjeiigdfdjccaaAutO
namespace Go.Proofs.Ytnjeiigdfdjccaa
open Go.RowKit
set_option linter.unusedVariables false
set_option linter.unusedSimpArgs false
def OD.val (o : OD) : Value := .agg #[.int .u32 (o.pr : Int), .int .u32 (o.no : Int), .int .u32 (o.re : Int), .int .u32 (o.lo : Int)]
/-- What lies while an order is made: the frame, the result's room, the order. -/
structure Ords (w W : World) (u : Au) (f : FD) (fb rsb ob : Nat) (o : OD) : Prop where
  fr : W.heap[fb]? = some (.cells #[.pointer (some ⟨u.g, 0, none⟩), .int .u32 (f.cl : Int), .int .u32 (f.no : Int), .int .u32 (f.re : Int), .int .u32 (f.ak : Int), .int .u32 (f.ca : Int), .int .u32 (f.rq : Int)] 116 (0, 0))
  rs : W.heap[rsb]? = some (.cells #[.int .u32 0, .int .u32 0, .int .u32 0, .int .u32 0] 35 (0, 0))
  o : W.heap[ob]? = some (.cells #[.int .u32 (o.pr : Int), .int .u32 (o.no : Int), .int .u32 (o.re : Int), .int .u32 (o.lo : Int)] 35 (0, 0))
  bel : Below w.heap.size w W
  ne : ob ≠ fb ∧ ob ≠ rsb ∧ w.heap.size ≤ ob ∧ w.heap.size ≤ rsb ∧ rsb ≠ fb
theorem Ords.below {w W V : World} {u : Au} {f : FD} {fb rsb ob : Nat} {o : OD} (h : Ords w W u f fb rsb ob o) (hb : Below W.heap.size W V) : Ords w V u f fb rsb ob o :=
  ⟨tb_kept h.fr hb, tb_kept h.rs hb, tb_kept h.o hb, h.bel.trans (hb.mono h.bel.size), h.ne⟩
theorem Ords.set {w W : World} {u : Au} {f : FD} {fb rsb ob : Nat} {o o' : OD} {j : Nat} {v : Value} (h : Ords w W u f fb rsb ob o)
    (hv : #[Value.int .u32 (o.pr : Int), .int .u32 (o.no : Int), .int .u32 (o.re : Int), .int .u32 (o.lo : Int)].setIfInBounds j v = #[.int .u32 (o'.pr : Int), .int .u32 (o'.no : Int), .int .u32 (o'.re : Int), .int .u32 (o'.lo : Int)]) : Ords w (W.setCell ⟨ob, j, none⟩ v) u f fb rsb ob o' :=
  ⟨(heap_setCell_other _ _ _ _ (Ne.symm h.ne.1)).trans h.fr, (heap_setCell_other _ _ _ _ (Ne.symm h.ne.2.1)).trans h.rs, by rw [← hv]; exact heap_setCell_same _ _ _ _ _ _ h.o, h.bel.setCell (p := ⟨ob, j, none⟩) h.ne.2.2.1 _, h.ne⟩
theorem or_bitw (x k : Nat) (hx : x < 4294967296) (hk : k < 32) (v : Int) (hv : v = (2 : Int) ^ k % 4294967296) : bits .or .u32 (x : Int) v = ((x ||| 2 ^ k : Nat) : Int) := by rw [hv]; exact or_bit x k hx hk
theorem pow_lt32 (q : Nat) (hq : q < 32) : 2 ^ q < 4294967296 := Nat.lt_of_lt_of_le (Nat.pow_lt_pow_right (by omega) hq) (by decide)
theorem or_pow (x y q : Nat) (hx : x < 4294967296) (hq : q < 32) (hy : y ≤ 1) (v : Int) (hv : v = (y : Int) * (2 : Int) ^ q % 4294967296) : bits .or .u32 (x : Int) v = ((x ||| y * 2 ^ q : Nat) : Int) := by
  have h := pow_lt32 q hq
  have e : v = ((y * 2 ^ q : Nat) : Int) := by
    rw [hv]
    have : ((2 : Int) ^ q) = ((2 ^ q : Nat) : Int) := by simp
    rw [this]
    generalize 2 ^ q = p at *
    have : y = 0 ∨ y = 1 := by omega
    rcases this with rfl | rfl
    · simp
    · omega
  rw [e]
  refine u32_or_nat x _ hx ?_
  calc y * 2 ^ q ≤ 1 * 2 ^ q := Nat.mul_le_mul_right _ hy
    _ < 4294967296 := by rw [Nat.one_mul]; exact h
theorem and8 (c : Nat) (hc : c < 3) : bits .and .u8 (c : Int) 1 % 4294967296 = ((c &&& 1 : Nat) : Int) := by
  have : c = 0 ∨ c = 1 ∨ c = 2 := by omega
  rcases this with rfl | rfl | rfl <;> decide
set_option maxRecDepth 100000 in
set_option maxHeartbeats 8000000 in
theorem order_any (u : Au) (S : AS) (f : FD) (w : World) (h : AutoAt w u S) (hf : f.Ok) (hT : TOk u.T) (hS : S.Ok) :
    Calls Try.prog 49 #[.agg #[.pointer (some ⟨u.g, 0, none⟩), .int .u32 (f.cl : Int), .int .u32 (f.no : Int), .int .u32 (f.re : Int), .int .u32 (f.ak : Int), .int .u32 (f.ca : Int), .int .u32 (f.rq : Int)]] w fun e w' => e = .returned (orderS u.T f S).val ∧ Below w.heap.size w w' := by
  have H := Lib.hid h
  obtain ⟨ra, rc, C0, hvr, hrl, hrc, _⟩ := h.tr.at_
  obtain ⟨sc, hvs, hs1, hs2, _⟩ := h.rs
  obtain ⟨a, c, hvp, hp1, hp2, hp3⟩ := h.ps
  have HTOK := Lib.hid hT
  have hN := hT.n
  have hPN := hT.p
  have HRT := Lib.hid (hvr ▸ h.tr)
  obtain ⟨w1, hw1, k0, k1, k2, hz1, hb1⟩ := alloc3 w #[.pointer (some ⟨u.g, 0, none⟩), .int .u32 (f.cl : Int), .int .u32 (f.no : Int), .int .u32 (f.re : Int), .int .u32 (f.ak : Int), .int .u32 (f.ca : Int), .int .u32 (f.rq : Int)] #[.int .u32 0, .int .u32 0, .int .u32 0, .int .u32 0] #[.int .u32 0, .int .u32 0, .int .u32 0, .int .u32 0] 116 35 35
  have A1 : Hid (AutoAt w1 u S) := h.below hb1
  have K0 := Lib.hid k0; have K1 := Lib.hid k1; have K2 := Lib.hid k2; have B1 := Lib.hid hb1; have HW1 := Lib.hid hw1; have Z1 := Lib.hid hz1
  have HG : Hid (∀ W, AutoAt W u S → W.cell? ⟨u.g, 3, none⟩ = some (.slice ra u.T.rts.length rc) ∧ W.cell? ⟨u.g, 4, none⟩ = some (.slice (some ⟨u.rb, 0, none⟩) u.T.rts.length sc) ∧ W.cell? ⟨u.g, 5, none⟩ = some (.slice a u.T.pts.length c)) := fun W hW =>
    ⟨by rw [← hvr]; exact cell_row (j := 3) hW.obj rfl, by rw [← hvs]; exact cell_row (j := 4) hW.obj rfl, by rw [← hvp]; exact cell_row (j := 5) hW.obj rfl⟩
  have HS := Lib.hid hS; have HF := Lib.hid hf
  unfold maxLen at hs2 hrc hp2
  obtain ⟨O, hO⟩ : ∃ O, O = orderS u.T f S := ⟨_, rfl⟩
  have HO : Hid (O = ⟨prN u.T f S.R u.T.rts.length, noN S.C u.T.pts.length, reN S.C u.T.pts.length, loN S.R u.T.rts.length⟩) := hO
  rw [← hO]
  have HPS := Lib.hid hp3
  clear hO hw1 k0 k1 k2 hz1 hb1 hvr hvs hvp h hT hS hf hp3
  have HSIG : Hid (∀ n, n < u.T.rts.length → (u.T.rts.getD n rt0).sig.toNat < 12) := fun n hn => by have := HTOK.out.sig n hn; omega
  generalize hlen : u.T.rts.length = m at *
  have HLEN := Lib.hid hlen
  clear hlen
  generalize hpl : u.T.pts.length = mp at *
  have HPLN := Lib.hid hpl
  clear hpl
  obtain ⟨fb, hfb⟩ : ∃ fb, fb = w.heap.size := ⟨_, rfl⟩
  have HFB := Lib.hid hfb
  have B1' := B1
  rw [← hfb] at K0 K1 K2
  go_enter Try.func49, Try.ntmps49
  go_upto_region 2 with fail
  rw [← HW1.out]
  rw [← hfb]
  clear hfb
  have c0 := cell_row (j := 0) K0.out rfl
  have l0 := heap_lt K0.out
  have g4 := (HG.out w1 A1.out).2.1
  have lg := heap_lt A1.out.obj
  go_wp2_with fail
  clear c0 l0 g4 lg
  obtain ⟨rsb, hrsb⟩ : ∃ r, r = fb + 1 := ⟨_, rfl⟩
  rw [← hrsb]
  obtain ⟨ob, hob⟩ : ∃ r, r = rsb + 1 := ⟨_, rfl⟩
  rw [← hob]
  have R1 : Hid (Ords w w1 u f fb rsb ob ⟨0, 0, 0, 0⟩) := ⟨K0.out, by rw [hrsb]; exact K1.out, by rw [hob, hrsb]; exact K2.out, B1.out, by have := HFB.out; omega, by have := HFB.out; omega, by have := HFB.out; omega, by have := HFB.out; omega, by have := HFB.out; omega⟩
  clear hrsb hob K0 K1 K2
  go_loopw [15] (fun i wr => ∃ k : Nat, k ≤ m ∧ i = .int .i64 k ∧ Ords w wr u f fb rsb ob ⟨prN u.T f S.R k, 0, 0, loN S.R k⟩) (fun i _ => m - (intOf i).toNat)
  case atStart => exact ⟨0, Nat.zero_le _, rfl, R1.out⟩
  case round =>
    clear R1
    obtain ⟨k, hk, rfl, ho⟩ := hrel
    have R2 := Lib.hid ho
    clear ho
    obtain ⟨w2, rfl⟩ : ∃ w2 : World, w2 = wr := ⟨_, rfl⟩
    have A2 : Hid (AutoAt w2 u S) := H.out.below R2.out.bel
    by_cases hlt : k < m
    · obtain ⟨b, off, C, rfl, hb, hc, hR⟩ := HRT.out.cells (i := k) (by rw [HLEN.out]; exact hlt)
      obtain ⟨r, hrr⟩ : ∃ r, r = u.T.rts.getD k rt0 := ⟨_, rfl⟩
      rw [← hrr] at hR
      have HRR := Lib.hid hrr
      obtain ⟨⟨ta, tc, htr, _⟩, _⟩ := hR.tr
      obtain ⟨⟨pa, pc, hp, _⟩, _⟩ := hR.pts
      obtain ⟨⟨ca, cc, hcn, _⟩, _⟩ := hR.con
      have HTR := Lib.hid (htr ▸ hR.tr); have HPT := Lib.hid (hp ▸ hR.pts)
      have hx0 : u.w0.cell? ⟨b, off + k * 6, none⟩ = some (.int .i64 r.sig) := by rw [← hR.sig]; exact hc 0 (by omega)
      have hx1 : u.w0.cell? ⟨b, off + k * 6 + 1, none⟩ = some (.slice ta r.tr.length tc) := by rw [← htr]; exact hc 1 (by omega)
      have hx2 : u.w0.cell? ⟨b, off + k * 6 + 2, none⟩ = some (.slice pa r.pts.length pc) := by rw [← hp]; exact hc 2 (by omega)
      have hx3 : u.w0.cell? ⟨b, off + k * 6 + 3, none⟩ = some (.int .i64 r.app) := by rw [← hR.app]; exact hc 3 (by omega)
      have hx4 : u.w0.cell? ⟨b, off + k * 6 + 4, none⟩ = some (.slice ca r.con.length cc) := by rw [← hcn]; exact hc 4 (by omega)
      have hx5 : u.w0.cell? ⟨b, off + k * 6 + 5, none⟩ = some (.int .u16 (r.hold : Int)) := by rw [← hR.hold]; exact hc 5 (by omega)
      have hsg := HTOK.out.sig k (by rw [HLEN.out]; exact hlt)
      have HTRR := Lib.hid (HTOK.out.tr k (by rw [HLEN.out]; exact hlt)); have HPP := Lib.hid (HTOK.out.pp k (by rw [HLEN.out]; exact hlt))
      rw [← hrr] at hsg HTRR HPP
      -- the copies
      obtain ⟨w3, hw3⟩ : ∃ w3, w3 = w2.alloc (.cells #[.int .u8 ((S.R k).ph : Int), .int .u16 ((S.R k).tm : Int), .int .u32 ((S.R k).us : Int), .int .u32 ((S.R k).rl : Int)] 43) := ⟨_, rfl⟩
      have B23 : Hid (Below w2.heap.size w2 w3) := by rw [hw3]; exact tb_alloc_below _ _
      have K3 : Hid (w3.heap[w2.heap.size]? = some (.cells #[.int .u8 ((S.R k).ph : Int), .int .u16 ((S.R k).tm : Int), .int .u32 ((S.R k).us : Int), .int .u32 ((S.R k).rl : Int)] 43 (0, 0))) := by rw [hw3]; exact heap_alloc_new _ _
      obtain ⟨w4, hw4⟩ : ∃ w4, w4 = w3.alloc (.cells #[.int .i64 r.sig, .slice ta r.tr.length tc, .slice pa r.pts.length pc, .int .i64 r.app, .slice ca r.con.length cc, .int .u16 (r.hold : Int)] 41) := ⟨_, rfl⟩
      have B34 : Hid (Below w3.heap.size w3 w4) := by rw [hw4]; exact tb_alloc_below _ _
      have K4 : Hid (w4.heap[w3.heap.size]? = some (.cells #[.int .i64 r.sig, .slice ta r.tr.length tc, .slice pa r.pts.length pc, .int .i64 r.app, .slice ca r.con.length cc, .int .u16 (r.hold : Int)] 41 (0, 0))) := by rw [hw4]; exact heap_alloc_new _ _
      have HW3 := Lib.hid hw3; have HW4 := Lib.hid hw4
      have R3 := Lib.hid (R2.out.below B23.out)
      have A3 := Lib.hid (A2.out.below B23.out)
      have R4 := Lib.hid (R3.out.below B34.out)
      have A4 := Lib.hid (A3.out.below B34.out)
      have K34 := Lib.hid (tb_kept K3.out B34.out)
      have BL3 := Lib.hid A3.out.bel
      clear hw3 hw4 hc hR hrr htr hp hcn
      have c0 := cell_row (j := 0) R2.out.fr rfl
      have l0 := heap_lt R2.out.fr
      have g4 := (HG.out w2 A2.out).2.1
      have lg := heap_lt A2.out.obj
      obtain ⟨r0, r1, r2, r3, -⟩ := A2.out.rcell (n := k) (by rw [HLEN.out]; exact hlt)
      have lr := A2.out.rlt
      have i0 : (0 : Int) ≤ (k : Int) := by omega
      have i1 : (k : Int) < (m : Int) := by omega
      go_upto_region 5 with fail
      rw [← HW3.out]
      clear c0 l0 g4 lg r0 r1 r2 r3 lr
      have c0 := cell_row (j := 0) R3.out.fr rfl
      have l0 := heap_lt R3.out.fr
      have g3 := (HG.out w3 A3.out).1
      have lg := heap_lt A3.out.obj
      have x0 := (BL3.out.cell hb).trans hx0; have x1 := (BL3.out.cell hb).trans hx1; have x2 := (BL3.out.cell hb).trans hx2; have x3 := (BL3.out.cell hb).trans hx3; have x4 := (BL3.out.cell hb).trans hx4; have x5 := (BL3.out.cell hb).trans hx5
      have lb : b < w3.heap.size := Nat.lt_of_lt_of_le hb BL3.out.size
      clear hx0 hx1 hx2 hx3 hx4 hx5
      go_upto_region 6 with fail
      rw [← HW4.out]
      clear c0 l0 g3 lg x0 x1 x2 x3 x4 x5 lb
      obtain ⟨sb, hsb⟩ : ∃ s, s = w2.heap.size := ⟨_, rfl⟩
      obtain ⟨kb, hkb⟩ : ∃ s, s = w3.heap.size := ⟨_, rfl⟩
      rw [← hsb] at K34 ⊢
      rw [← hkb] at K4 ⊢
      have HSO : Hid (sb ≠ ob ∧ kb ≠ ob) := by have := heap_lt R2.out.o; have := heap_lt R3.out.o; exact ⟨by omega, by omega⟩
      clear hsb hkb K3
      have HLO : Hid (loN S.R (k + 1) = if (S.R k).ph = 0 then loN S.R k else loN S.R k ||| 2 ^ k) := rfl
      have HPR : Hid (prN u.T f S.R (k + 1) = if ((S.R k).ph == 1 && (r.tr.all fun x => bt f.cl x) && (r.pts.all fun p => seenB f p)) then prN u.T f S.R k ||| 2 ^ r.sig.toNat else prN u.T f S.R k) := by show _ = _; rw [HRR.out]; rfl
      have HLOL : Hid (loN S.R k < 4294967296) := loN_lt S.R k (by omega)
      have HPRL : Hid (prN u.T f S.R k < 4294967296) := prN_lt u.T f S.R (by rw [HLEN.out]; exact HSIG.out) k (by rw [HLEN.out]; omega)
      have s0 := cell_row (j := 0) K34.out rfl
      have ls := heap_lt K34.out
      by_cases p0 : (S.R k).ph = 0
      · have HL1 : Hid (loN S.R (k + 1) = loN S.R k) := by show _ = _; rw [HLO.out, if_pos p0]
        have HP1 : Hid (prN u.T f S.R (k + 1) = prN u.T f S.R k) := by show _ = _; rw [HPR.out, p0]; rfl
        have s0' : w4.cell? ⟨sb, 0, none⟩ = some (.int .u8 0) := by rw [s0, p0]; rfl
        clear s0 p0
        go_wp2_with fail
        go_roundw
        case rel => exact ⟨k + 1, by omega, by go_num, by rw [HL1.out, HP1.out]; exact R4.out⟩
        case measure => simp [intOf]; omega
      have HL1 : Hid (loN S.R (k + 1) = loN S.R k ||| 2 ^ k) := by show _ = _; rw [HLO.out, if_neg p0]
      have q0 : (((S.R k).ph : Int) == 0) = false := by simpa using p0
      have q0' : (((S.R k).ph : Int) != 0) = true := by simpa using p0
      have o3 := cell_row (j := 3) R4.out.o rfl
      have f3 : w4.frozen? ⟨ob, 3, none⟩ = false := frozen_of_row _ _ _ _ _ R4.out.o
      have lo := heap_lt R4.out.o
      have HOB := Lib.hid (or_bit (loN S.R k) k HLOL.out (by omega))
      generalize hlk : loN S.R k = lok at *
      generalize hpk : prN u.T f S.R k = prk at *
      clear hlk hpk
      go_wp2_with fail
      go_region
      all_goals
        rw [HOB.out]
        have R5 : Hid (Ords w (w4.setCell ⟨ob, 3, none⟩ (.int .u32 ((lok ||| 2 ^ k : Nat) : Int))).drew u f fb rsb ob ⟨prk, 0, 0, lok ||| 2 ^ k⟩) := (R4.out.set (o' := ⟨prk, 0, 0, lok ||| 2 ^ k⟩) (j := 3) (v := .int .u32 ((lok ||| 2 ^ k : Nat) : Int)) rfl).below ⟨rfl, rfl, rfl, Nat.le_refl _, fun _ _ => rfl⟩
        have K5 : Hid ((w4.setCell ⟨ob, 3, none⟩ (.int .u32 ((lok ||| 2 ^ k : Nat) : Int))).drew.heap[sb]? = _) := (heap_setCell_other _ _ _ _ HSO.out.1).trans K34.out
        have K5r : Hid ((w4.setCell ⟨ob, 3, none⟩ (.int .u32 ((lok ||| 2 ^ k : Nat) : Int))).drew.heap[kb]? = _) := (heap_setCell_other _ _ _ _ HSO.out.2).trans K4.out
        generalize (w4.setCell ⟨ob, 3, none⟩ (.int .u32 ((lok ||| 2 ^ k : Nat) : Int))).drew = w5 at *
        clear s0 ls o3 f3 lo HOB
        have s0 := cell_row (j := 0) K5.out rfl
        have ls := heap_lt K5.out
        by_cases p1 : (S.R k).ph = 1
        · have s0' : w5.cell? ⟨sb, 0, none⟩ = some (.int .u8 1) := by rw [s0, p1]; rfl
          rw [p1] at HPR
          clear s0 p0 p1 q0 q0'
          have d1 := cell_row (j := 1) K5r.out rfl
          have d2 := cell_row (j := 2) K5r.out rfl
          have ld := heap_lt K5r.out
          have HA2 : Hid (∀ W, Below w5.heap.size w5 W → Calls Try.prog 68 #[.slice ta r.tr.length tc, .func (.func 62) #[.agg #[.pointer (some ⟨u.g, 0, none⟩), .int .u32 (f.cl : Int), .int .u32 (f.no : Int), .int .u32 (f.re : Int), .int .u32 (f.ak : Int), .int .u32 (f.ca : Int), .int .u32 (f.rq : Int)]] #[]] W fun e w' => e = .returned (.bool (r.tr.all fun x => bt f.cl x)) ∧ Below W.heap.size W w') := fun W hW =>
            all_int _ r.tr _ #[.agg #[.pointer (some ⟨u.g, 0, none⟩), .int .u32 (f.cl : Int), .int .u32 (f.no : Int), .int .u32 (f.re : Int), .int .u32 (f.ak : Int), .int .u32 (f.ca : Int), .int .u32 (f.rq : Int)]] #[] (fun x => bt f.cl x) W (HTR.out.below (H.out.below (R5.out.below hW).bel).bel) (enters_of Try.func62 (by kernel_rfl) rfl)
              (fun i hi V hV => clear_any u f _ V HF.out.cl (HTRR.out i hi).1)
          have HA3 : Hid (∀ W, Below w5.heap.size w5 W → Calls Try.prog 69 #[.slice pa r.pts.length pc, .func (.func 70) #[.agg #[.pointer (some ⟨u.g, 0, none⟩), .int .u32 (f.cl : Int), .int .u32 (f.no : Int), .int .u32 (f.re : Int), .int .u32 (f.ak : Int), .int .u32 (f.ca : Int), .int .u32 (f.rq : Int)]] #[]] W fun e w' => e = .returned (.bool (r.pts.all fun p => seenB f p)) ∧ Below W.heap.size W w') := fun W hW =>
            all_pt _ r.pts _ #[.agg #[.pointer (some ⟨u.g, 0, none⟩), .int .u32 (f.cl : Int), .int .u32 (f.no : Int), .int .u32 (f.re : Int), .int .u32 (f.ak : Int), .int .u32 (f.ca : Int), .int .u32 (f.rq : Int)]] #[] (fun p => seenB f p) W (HPT.out.below (H.out.below (R5.out.below hW).bel).bel) (enters_of Try.func70 (by kernel_rfl) rfl)
              (fun i hi V hV => seen_any u f _ V HF.out (HPP.out i hi).1)
          generalize (r.tr.all fun x => bt f.cl x) = e1 at *
          generalize (r.pts.all fun p => seenB f p) = e2 at *
          have c0 := cell_row (j := 0) R5.out.fr rfl
          have c1 := cell_row (j := 1) R5.out.fr rfl
          have c2 := cell_row (j := 2) R5.out.fr rfl
          have c3 := cell_row (j := 3) R5.out.fr rfl
          have c4 := cell_row (j := 4) R5.out.fr rfl
          have c5 := cell_row (j := 5) R5.out.fr rfl
          have c6 := cell_row (j := 6) R5.out.fr rfl
          have l0 := heap_lt R5.out.fr
          cases e1
          case false =>
            have HP1 : Hid (prN u.T f S.R (k + 1) = prk) := by show _ = _; rw [HPR.out]; rfl
            go_wp2_with fail
            refine (HA2.out w5 (Below.refl _ _)).mono ?_
            rintro e w6 ⟨rfl, hb6⟩
            have R6 := Lib.hid (R5.out.below hb6)
            clear hb6 s0' ls d1 d2 ld
            clear c0 c1 c2 c3 c4 c5 c6 l0
            go_wp2_with fail
            go_roundw
            case rel => exact ⟨k + 1, by omega, by go_num, by rw [HL1.out, HP1.out]; exact R6.out⟩
            case measure => simp [intOf]; omega
          case true =>
          go_wp2_with fail
          refine (HA2.out w5 (Below.refl _ _)).mono ?_
          rintro e w6 ⟨rfl, hb6⟩
          have R6 := Lib.hid (R5.out.below hb6)
          have B6 := Lib.hid hb6
          clear hb6 s0' ls d1 d2 ld
          clear c0 c1 c2 c3 c4 c5 c6 l0
          have d0 := cell_row (j := 0) (tb_kept K5r.out B6.out) rfl
          have d2 := cell_row (j := 2) (tb_kept K5r.out B6.out) rfl
          have ld := heap_lt (tb_kept K5r.out B6.out)
          have c0 := cell_row (j := 0) R6.out.fr rfl
          have c1 := cell_row (j := 1) R6.out.fr rfl
          have c2 := cell_row (j := 2) R6.out.fr rfl
          have c3 := cell_row (j := 3) R6.out.fr rfl
          have c4 := cell_row (j := 4) R6.out.fr rfl
          have c5 := cell_row (j := 5) R6.out.fr rfl
          have c6 := cell_row (j := 6) R6.out.fr rfl
          have l0 := heap_lt R6.out.fr
          cases e2
          case false =>
            have HP1 : Hid (prN u.T f S.R (k + 1) = prk) := by show _ = _; rw [HPR.out]; rfl
            go_wp2_with fail
            refine (HA3.out w6 B6.out).mono ?_
            rintro e w7 ⟨rfl, hb7⟩
            have R7 := Lib.hid (R6.out.below hb7)
            clear hb7 d0 d2 ld
            clear c0 c1 c2 c3 c4 c5 c6 l0
            go_wp2_with fail
            go_roundw
            case rel => exact ⟨k + 1, by omega, by go_num, by rw [HL1.out, HP1.out]; exact R7.out⟩
            case measure => simp [intOf]; omega
          case true =>
          have HP1 : Hid (prN u.T f S.R (k + 1) = prk ||| 2 ^ r.sig.toNat) := by show _ = _; rw [HPR.out]; rfl
          go_wp2_with fail
          refine (HA3.out w6 B6.out).mono ?_
          rintro e w7 ⟨rfl, hb7⟩
          have R7 := Lib.hid (R6.out.below hb7)
          have K7 := Lib.hid (tb_kept (tb_kept K5r.out B6.out) hb7)
          clear hb7 d0 d2 ld
          clear c0 c1 c2 c3 c4 c5 c6 l0
          have HSGN : Hid (r.sig.toNat < 12) := by show _ < 12; omega
          have d0 : w7.cell? ⟨kb, 0, none⟩ = some (.int .i64 ((r.sig.toNat : Nat) : Int)) := by
            rw [Int.toNat_of_nonneg hsg.1]; exact cell_row (j := 0) K7.out rfl
          have ld := heap_lt K7.out
          have o0 := cell_row (j := 0) R7.out.o rfl
          have f0 : w7.frozen? ⟨ob, 0, none⟩ = false := frozen_of_row _ _ _ _ _ R7.out.o
          have lo := heap_lt R7.out.o
          generalize r.sig.toNat = sg at *
          have HOB := Lib.hid (or_bit prk sg HPRL.out (by have := HSGN.out; omega))
          have hsg12 : sg < 12 := HSGN.out
          clear hsg
          go_wp2_with fail
          go_region
          all_goals
            rw [HOB.out]
            have R8 : Hid (Ords w (w7.setCell ⟨ob, 0, none⟩ (.int .u32 ((prk ||| 2 ^ sg : Nat) : Int))).drew u f fb rsb ob ⟨prk ||| 2 ^ sg, 0, 0, lok ||| 2 ^ k⟩) := (R7.out.set (o' := ⟨prk ||| 2 ^ sg, 0, 0, lok ||| 2 ^ k⟩) (j := 0) (v := .int .u32 ((prk ||| 2 ^ sg : Nat) : Int)) rfl).below ⟨rfl, rfl, rfl, Nat.le_refl _, fun _ _ => rfl⟩
            generalize (w7.setCell ⟨ob, 0, none⟩ (.int .u32 ((prk ||| 2 ^ sg : Nat) : Int))).drew = w8 at *
            clear d0 ld o0 f0 lo HOB
            go_wp2_with fail
            go_roundw
            case rel => exact ⟨k + 1, by omega, by go_num, by rw [HL1.out, HP1.out]; exact R8.out⟩
            case measure => simp [intOf]; omega
        · have q1 : (((S.R k).ph : Int) == 1) = false := by simp; omega
          have HP1 : Hid (prN u.T f S.R (k + 1) = prk) := by show _ = _; rw [HPR.out, show ((S.R k).ph == 1) = false by simpa using p1]; rfl
          clear p0 p1
          go_wp2_with fail
          go_roundw
          case rel => exact ⟨k + 1, by omega, by go_num, by rw [HL1.out, HP1.out]; exact R5.out⟩
          case measure => simp [intOf]; omega
    · obtain rfl : k = m := by omega
      obtain ⟨PR, hPR⟩ : ∃ x, x = prN u.T f S.R k := ⟨_, rfl⟩
      obtain ⟨LO, hLO⟩ : ∃ x, x = loN S.R k := ⟨_, rfl⟩
      rw [← hPR, ← hLO] at R2 HO
      have c0 := cell_row (j := 0) R2.out.fr rfl
      have l0 := heap_lt R2.out.fr
      have g5 := (HG.out w2 A2.out).2.2
      have lg := heap_lt A2.out.obj
      clear hPR hLO
      go_wp2_with fail
      clear c0 l0 g5 lg
      have R20 : Hid (Ords w w2 u f fb rsb ob ⟨PR, noN S.C 0, reN S.C 0, LO⟩) := R2.out
      clear R2 A2
      go_loopw [69] (fun i wr => ∃ k : Nat, k ≤ mp ∧ i = .int .i64 k ∧ Ords w wr u f fb rsb ob ⟨PR, noN S.C k, reN S.C k, LO⟩) (fun i _ => mp - (intOf i).toNat)
      case atStart => exact ⟨0, Nat.zero_le _, rfl, R20.out⟩
      case round =>
        clear R20
        obtain ⟨q, hq, rfl, ho⟩ := hrel
        have R2 := Lib.hid ho
        clear ho
        obtain ⟨w3, rfl⟩ : ∃ w3 : World, w3 = wr := ⟨_, rfl⟩
        by_cases hltq : q < mp
        · obtain ⟨rfl, hrow⟩ := HPS.out (by omega)
          have x0 : w3.cell? ⟨u.pb, q, none⟩ = some (.int .u8 (S.C q : Int)) := (R2.out.bel.cell (p := ⟨u.pb, q, none⟩) hrow.lt).trans (hrow.cell hltq)
          have lx : u.pb < w3.heap.size := Nat.lt_of_lt_of_le hrow.lt R2.out.bel.size
          have o1 := cell_row (j := 1) R2.out.o rfl
          have f1 : w3.frozen? ⟨ob, 1, none⟩ = false := frozen_of_row _ _ _ _ _ R2.out.o
          have lo := heap_lt R2.out.o
          have HC3 := Lib.hid (HS.out.C q)
          have HNO : Hid (noN S.C (q + 1) = noN S.C q ||| (S.C q &&& 1) * 2 ^ q) := rfl
          have HRE : Hid (reN S.C (q + 1) = reN S.C q ||| (S.C q / 2) * 2 ^ q) := rfl
          have HNL : Hid (noN S.C q < 4294967296) := noN_lt S.C HS.out.C q (by omega)
          have HRL : Hid (reN S.C q < 4294967296) := reN_lt S.C HS.out.C q (by omega)
          generalize S.C q = cq at *
          generalize noN S.C q = noq at *
          generalize reN S.C q = req at *
          clear hrow
          have HB1 : Hid (bits .or .u32 (noq : Int) (bits .and .u8 (cq : Int) 1 % 4294967296 * 2 ^ q % 4294967296) = ((noq ||| (cq &&& 1) * 2 ^ q : Nat) : Int)) := or_pow noq (cq &&& 1) q HNL.out (by omega) Nat.and_le_right _ (by rw [and8 cq HC3.out])
          go_wp2_with fail
          go_region
          all_goals
            rw [HB1.out]
            have R3 : Hid (Ords w (w3.setCell ⟨ob, 1, none⟩ (.int .u32 ((noq ||| (cq &&& 1) * 2 ^ q : Nat) : Int))).drew u f fb rsb ob ⟨PR, noq ||| (cq &&& 1) * 2 ^ q, req, LO⟩) := (R2.out.set (o' := ⟨PR, noq ||| (cq &&& 1) * 2 ^ q, req, LO⟩) (j := 1) (v := .int .u32 ((noq ||| (cq &&& 1) * 2 ^ q : Nat) : Int)) rfl).below ⟨rfl, rfl, rfl, Nat.le_refl _, fun _ _ => rfl⟩
            generalize (w3.setCell ⟨ob, 1, none⟩ (.int .u32 ((noq ||| (cq &&& 1) * 2 ^ q : Nat) : Int))).drew = w4 at *
            clear x0 lx o1 f1 lo HB1
            have o2 := cell_row (j := 2) R3.out.o rfl
            have f2 : w4.frozen? ⟨ob, 2, none⟩ = false := frozen_of_row _ _ _ _ _ R3.out.o
            have lo := heap_lt R3.out.o
            have HB2 : Hid (bits .or .u32 (req : Int) ((cq : Int) / 2 % 4294967296 * 2 ^ q % 4294967296) = ((req ||| (cq / 2) * 2 ^ q : Nat) : Int)) := or_pow req (cq / 2) q HRL.out (by omega) (by have := HC3.out; omega) _ (by have := HC3.out; rw [show (cq : Int) / 2 % 4294967296 = ((cq / 2 : Nat) : Int) by omega])
            go_wp2_with fail
            go_region
            all_goals
              rw [HB2.out]
              have R4 : Hid (Ords w (w4.setCell ⟨ob, 2, none⟩ (.int .u32 ((req ||| (cq / 2) * 2 ^ q : Nat) : Int))).drew u f fb rsb ob ⟨PR, noq ||| (cq &&& 1) * 2 ^ q, req ||| (cq / 2) * 2 ^ q, LO⟩) := (R3.out.set (o' := ⟨PR, noq ||| (cq &&& 1) * 2 ^ q, req ||| (cq / 2) * 2 ^ q, LO⟩) (j := 2) (v := .int .u32 ((req ||| (cq / 2) * 2 ^ q : Nat) : Int)) rfl).below ⟨rfl, rfl, rfl, Nat.le_refl _, fun _ _ => rfl⟩
              generalize (w4.setCell ⟨ob, 2, none⟩ (.int .u32 ((req ||| (cq / 2) * 2 ^ q : Nat) : Int))).drew = w5 at *
              clear o2 f2 lo HB2 R3 R2
              go_wp2_with fail
              go_roundw
              case rel => exact ⟨q + 1, by omega, by go_num, by rw [HNO.out, HRE.out]; exact R4.out⟩
              case measure => simp [intOf]; omega
        · obtain rfl : q = mp := by omega
          generalize hno : noN S.C q = NO at *
          generalize hre : reN S.C q = RE at *
          have HOE : Hid (O = ⟨PR, NO, RE, LO⟩) := HO.out
          clear hno hre
          have o0 := cell_row (j := 0) R2.out.o rfl
          have o1 := cell_row (j := 1) R2.out.o rfl
          have o2 := cell_row (j := 2) R2.out.o rfl
          have o3 := cell_row (j := 3) R2.out.o rfl
          have lo := heap_lt R2.out.o
          have v0 := cell_row (j := 0) R2.out.rs rfl
          have v1 := cell_row (j := 1) R2.out.rs rfl
          have v2 := cell_row (j := 2) R2.out.rs rfl
          have v3 := cell_row (j := 3) R2.out.rs rfl
          have y0 : w3.frozen? ⟨rsb, 0, none⟩ = false := frozen_of_row _ _ _ _ _ R2.out.rs
          have y1 : w3.frozen? ⟨rsb, 1, none⟩ = false := frozen_of_row _ _ _ _ _ R2.out.rs
          have y2 : w3.frozen? ⟨rsb, 2, none⟩ = false := frozen_of_row _ _ _ _ _ R2.out.rs
          have y3 : w3.frozen? ⟨rsb, 3, none⟩ = false := frozen_of_row _ _ _ _ _ R2.out.rs
          have lv := heap_lt R2.out.rs
          have HBE : Hid (∀ (a b c d : Value), Below w.heap.size w ((((w3.setCell ⟨rsb, 0, none⟩ a).setCell ⟨rsb, 1, none⟩ b).setCell ⟨rsb, 2, none⟩ c).setCell ⟨rsb, 3, none⟩ d)) := fun a b c d =>
            (((R2.out.bel.setCell (p := ⟨rsb, 0, none⟩) R2.out.ne.2.2.2.1 a).setCell (p := ⟨rsb, 1, none⟩) R2.out.ne.2.2.2.1 b).setCell (p := ⟨rsb, 2, none⟩) R2.out.ne.2.2.2.1 c).setCell (p := ⟨rsb, 3, none⟩) R2.out.ne.2.2.2.1 d
          go_wp2_with fail
          exact bodyPost_ret (v := .agg #[.int .u32 (PR : Int), .int .u32 (NO : Int), .int .u32 (RE : Int), .int .u32 (LO : Int)]) (by simp [results, Try.results49, go_sem, v0, v1, v2, v3, lv]) rfl ⟨by rw [HOE.out]; rfl, HBE.out _ _ _ _⟩
end Go.Proofs.Ytnjeiigdfdjccaa
