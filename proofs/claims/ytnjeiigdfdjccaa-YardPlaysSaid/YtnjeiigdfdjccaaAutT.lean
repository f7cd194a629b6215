/- train: a route that is in goes on. -/
import Derived.Test.YtnjeiigdfdjccaaAutA
import Derived.RegionTactic
import Derived.BigRegion
namespace Go.Proofs.Ytnjeiigdfdjccaa
open Go.RowKit
set_option linter.unusedVariables false
set_option linter.unusedSimpArgs false
def AS.setR (S : AS) (n : Nat) (r : RS) : AS := ⟨fun j => if j = n then r else S.R j, S.C⟩
theorem AS.setR_R (S : AS) (n : Nat) (r : RS) : (S.setR n r).R n = r := if_pos rfl
theorem AS.setR_setR (S : AS) (n : Nat) (r r' : RS) : (S.setR n r).setR n r' = S.setR n r' := by
  unfold AS.setR
  congr 1
  funext j
  show (if j = n then r' else if j = n then r else S.R j) = _
  by_cases e : j = n
  · rw [if_pos e, if_pos e]
  · rw [if_neg e, if_neg e, if_neg e]
theorem AS.setR_same (S : AS) (n : Nat) : S.setR n (S.R n) = S := by
  unfold AS.setR
  have : (fun j => if j = n then S.R n else S.R j) = S.R := by
    funext j
    by_cases e : j = n
    · rw [if_pos e, e]
    · rw [if_neg e]
  rw [this]
theorem AutoAt.row {w w' : World} {u : Au} {S : AS} {R' : Nat → RS} (h : AutoAt w u S) (hrow : RowAt w' u.rb 43 (u.T.rts.length * 4) (rsV R')) (ho : Only (fun b => b = u.rb) w w') : AutoAt w' u ⟨R', S.C⟩ := by
  obtain ⟨c, k1, k2, k3, k4⟩ := h.rs
  have hg := heap_lt h.obj
  have := h.rB; have := h.bel.size
  exact ⟨(ho.block _ hg h.gr).trans h.obj, h.tp, h.tr, h.bel.trans (ho.below this (fun i hi e => by subst e; omega)), ⟨c, k1, k2, k3, hrow⟩, h.ps.same (fun hp => ho.block _ (h.ps.lt hp) (fun e => h.rp e.symm)), h.gB, h.rB, h.pB, h.gr, h.gp, h.rp, Nat.lt_of_lt_of_le h.pl ho.size⟩
theorem rsV_set (R : Nat → RS) (n j : Nat) (hj : j < 4) (r' : RS) (x : Value) (hx : rcV r' j = x) (ho : ∀ i, i < 4 → i ≠ j → rcV r' i = rcV (R n) i) (q : Nat) : (if q = n * 4 + j then x else rsV R q) = rsV (fun j => if j = n then r' else R j) q := by
  show _ = rcV (if q / 4 = n then r' else R (q / 4)) (q % 4)
  unfold rsV
  by_cases e : q / 4 = n
  · rw [if_pos e]
    by_cases e2 : q = n * 4 + j
    · rw [if_pos e2, show q % 4 = j by omega, hx]
    · rw [if_neg e2, e, ho (q % 4) (Nat.mod_lt _ (by omega)) (by omega)]
  · rw [if_neg (show ¬ q = n * 4 + j by omega), if_neg e]
theorem AutoAt.setPh {w : World} {u : Au} {S : AS} (h : AutoAt w u S) {n : Nat} (hn : n < u.T.rts.length) (v : Nat) : AutoAt (w.setCell ⟨u.rb, n * 4 + 0, none⟩ (.int .u8 (v : Int))) u (S.setR n { S.R n with ph := v }) := by
  obtain ⟨c, k1, k2, k3, k4⟩ := h.rs
  refine h.row ((k4.set (i := n * 4 + 0) _).congr fun q hq => rsV_set S.R n 0 (by omega) { S.R n with ph := v } _ rfl (fun i hi hj => ?_) q) ((Only.refl _ w).set _ _ (.inr rfl))
  match i, hi, hj with
  | 0, _, _ => first | rfl | omega
  | 1, _, _ => first | rfl | omega
  | 2, _, _ => first | rfl | omega
  | 3, _, _ => first | rfl | omega
theorem AutoAt.setTm {w : World} {u : Au} {S : AS} (h : AutoAt w u S) {n : Nat} (hn : n < u.T.rts.length) (v : Nat) : AutoAt (w.setCell ⟨u.rb, n * 4 + 1, none⟩ (.int .u16 (v : Int))) u (S.setR n { S.R n with tm := v }) := by
  obtain ⟨c, k1, k2, k3, k4⟩ := h.rs
  refine h.row ((k4.set (i := n * 4 + 1) _).congr fun q hq => rsV_set S.R n 1 (by omega) { S.R n with tm := v } _ rfl (fun i hi hj => ?_) q) ((Only.refl _ w).set _ _ (.inr rfl))
  match i, hi, hj with
  | 0, _, _ => first | rfl | omega
  | 1, _, _ => first | rfl | omega
  | 2, _, _ => first | rfl | omega
  | 3, _, _ => first | rfl | omega
theorem AutoAt.setUs {w : World} {u : Au} {S : AS} (h : AutoAt w u S) {n : Nat} (hn : n < u.T.rts.length) (v : Nat) : AutoAt (w.setCell ⟨u.rb, n * 4 + 2, none⟩ (.int .u32 (v : Int))) u (S.setR n { S.R n with us := v }) := by
  obtain ⟨c, k1, k2, k3, k4⟩ := h.rs
  refine h.row ((k4.set (i := n * 4 + 2) _).congr fun q hq => rsV_set S.R n 2 (by omega) { S.R n with us := v } _ rfl (fun i hi hj => ?_) q) ((Only.refl _ w).set _ _ (.inr rfl))
  match i, hi, hj with
  | 0, _, _ => first | rfl | omega
  | 1, _, _ => first | rfl | omega
  | 2, _, _ => first | rfl | omega
  | 3, _, _ => first | rfl | omega
theorem AutoAt.setRl {w : World} {u : Au} {S : AS} (h : AutoAt w u S) {n : Nat} (hn : n < u.T.rts.length) (v : Nat) : AutoAt (w.setCell ⟨u.rb, n * 4 + 3, none⟩ (.int .u32 (v : Int))) u (S.setR n { S.R n with rl := v }) := by
  obtain ⟨c, k1, k2, k3, k4⟩ := h.rs
  refine h.row ((k4.set (i := n * 4 + 3) _).congr fun q hq => rsV_set S.R n 3 (by omega) { S.R n with rl := v } _ rfl (fun i hi hj => ?_) q) ((Only.refl _ w).set _ _ (.inr rfl))
  match i, hi, hj with
  | 0, _, _ => first | rfl | omega
  | 1, _, _ => first | rfl | omega
  | 2, _, _ => first | rfl | omega
  | 3, _, _ => first | rfl | omega
theorem usedN_lt (f : FD) (l : List Int) (u : Nat) (hu : u < 4294967296) : ∀ k, k ≤ 24 → usedN f l u k < 4294967296
  | 0, _ => hu
  | k + 1, hk => by
    unfold usedN
    have ih := usedN_lt f l u hu k (by omega)
    split
    · exact ih
    · exact Nat.or_lt_two_pow (n := 32) ih (Nat.lt_of_lt_of_le (Nat.pow_lt_pow_right (by omega) (show k < 24 by omega)) (by decide))
theorem relN_lt (f : FD) (l : List Int) (us u : Nat) (hu : u < 4294967296) : ∀ k, k ≤ 24 → relN f l us u k < 4294967296
  | 0, _ => hu
  | k + 1, hk => by
    unfold relN
    have ih := relN_lt f l us u hu k (by omega)
    split
    · exact Nat.or_lt_two_pow (n := 32) ih (Nat.lt_of_lt_of_le (Nat.pow_lt_pow_right (by omega) (show k < 24 by omega)) (by decide))
    · exact ih
theorem pow_mod32 (k : Nat) (hk : k < 32) : (2 : Int) ^ k % 4294967296 = ((2 ^ k : Nat) : Int) := by
  have h : 2 ^ k < 4294967296 := Nat.lt_of_lt_of_le (Nat.pow_lt_pow_right (by omega) hk) (by decide)
  have : ((2 : Int) ^ k) = ((2 ^ k : Nat) : Int) := by simp
  rw [this]
  generalize 2 ^ k = p at *
  omega
theorem or_bit (x k : Nat) (hx : x < 4294967296) (hk : k < 32) : bits .or .u32 (x : Int) ((2 : Int) ^ k % 4294967296) = ((x ||| 2 ^ k : Nat) : Int) := by
  have h : 2 ^ k < 4294967296 := Nat.lt_of_lt_of_le (Nat.pow_lt_pow_right (by omega) hk) (by decide)
  rw [pow_mod32 k hk]
  exact u32_or_nat x _ hx h
theorem eq_full (x k : Nat) (hk : k < 32) : ((x : Int) == ((2 : Int) ^ k - 1) % 4294967296) = decide (x = 2 ^ k - 1) := by
  have h : 2 ^ k < 4294967296 := Nat.lt_of_lt_of_le (Nat.pow_lt_pow_right (by omega) hk) (by decide)
  have h0 : 0 < 2 ^ k := Nat.two_pow_pos k
  have e : ((2 : Int) ^ k) = ((2 ^ k : Nat) : Int) := by simp
  rw [e]
  generalize 2 ^ k = p at *
  have e2 : ((p : Int) - 1) % 4294967296 = ((p - 1 : Nat) : Int) := by omega
  rw [e2]
  by_cases hx : x = p - 1
  · simp [hx]
  · have : ¬ ((x : Int) = ((p - 1 : Nat) : Int)) := by omega
    simp only [hx, decide_false]
    exact beq_false_of_ne this
theorem AutoAt.setAll {w : World} {u : Au} {S : AS} (h : AutoAt w u S) {n : Nat} (hn : n < u.T.rts.length) (r : RS) : AutoAt ((((w.setCell ⟨u.rb, n * 4, none⟩ (.int .u8 (r.ph : Int))).setCell ⟨u.rb, n * 4 + 1, none⟩ (.int .u16 (r.tm : Int))).setCell ⟨u.rb, n * 4 + 2, none⟩ (.int .u32 (r.us : Int))).setCell ⟨u.rb, n * 4 + 3, none⟩ (.int .u32 (r.rl : Int))) u (S.setR n r) := by
  have := (((h.setPh hn r.ph).setTm hn r.tm).setUs hn r.us).setRl hn r.rl
  simp only [AS.setR_setR, AS.setR_R] at this
  exact this
theorem AutoAt.drewN {w : World} {u : Au} {S : AS} {k : Nat} (h : AutoAt w u S) : AutoAt (w.drewN k) u S := h.below ⟨rfl, rfl, rfl, Nat.le_refl _, fun _ _ => rfl⟩
set_option maxRecDepth 100000 in
set_option maxHeartbeats 4000000 in
theorem train_any (u : Au) (S : AS) (f : FD) (n : Nat) (w : World) (h : AutoAt w u S) (hf : f.cl < 4294967296) (hn : n < u.T.rts.length) (hN : u.T.rts.length ≤ 16) (hl : (u.T.rts.getD n rt0).tr.length ≤ 24) (ht : ∀ i, i < (u.T.rts.getD n rt0).tr.length → 0 ≤ (u.T.rts.getD n rt0).tr.getD i 0) (hu : (S.R n).us < 4294967296) (hr : (S.R n).rl < 4294967296) :
    Calls Try.prog 64 #[.agg #[.pointer (some ⟨u.g, 0, none⟩), .int .u32 (f.cl : Int), .int .u32 (f.no : Int), .int .u32 (f.re : Int), .int .u32 (f.ak : Int), .int .u32 (f.ca : Int), .int .u32 (f.rq : Int)], .int .i64 (n : Int)] w fun e w' => e = .returned (.tuple #[]) ∧ AutoAt w' u (S.setR n (trainR f (u.T.rts.getD n rt0).tr (S.R n))) ∧ Only (fun b => b = u.rb) w w' := by
  have H := Lib.hid h
  obtain ⟨ra, rc, C0, hvr, hrl, hrc, _⟩ := h.tr.at_
  have hrt := h.tr
  rw [hvr] at hrt
  obtain ⟨b, off, C, rfl, hb, hc, hR⟩ := hrt.cells hn
  obtain ⟨sc, hvs, hs1, hs2, _⟩ := h.rs
  obtain ⟨r, hrr⟩ : ∃ r, r = u.T.rts.getD n rt0 := ⟨_, rfl⟩
  rw [← hrr] at hR hl ht ⊢
  obtain ⟨⟨ta, tc, htr, htl, htm, _⟩, _⟩ := hR.tr
  have HTR := Lib.hid (htr ▸ hR.tr)
  have x1 : u.w0.cell? ⟨b, off + n * 6 + 1, none⟩ = some (.slice ta r.tr.length tc) := by rw [← htr]; exact hc 1 (by omega)
  unfold maxLen at hs2 htm hrc
  have HN := Lib.hid hn
  have HG : Hid (∀ W S', AutoAt W u S' → W.cell? ⟨u.g, 3, none⟩ = some (.slice (some ⟨b, off, none⟩) u.T.rts.length rc) ∧ W.cell? ⟨u.g, 4, none⟩ = some (.slice (some ⟨u.rb, 0, none⟩) u.T.rts.length sc) ∧ u.g < W.heap.size ∧ b < W.heap.size ∧ W.cell? ⟨b, off + n * 6 + 1, none⟩ = some (.slice ta r.tr.length tc) ∧ IntsAt W (.slice ta r.tr.length tc) r.tr) := fun W S' hW =>
    ⟨by rw [← hvr]; exact cell_row (j := 3) hW.obj rfl, by rw [← hvs]; exact cell_row (j := 4) hW.obj rfl, heap_lt hW.obj, Nat.lt_of_lt_of_le hb hW.bel.size, (hW.bel.cell hb).trans x1, HTR.out.below hW.bel⟩
  obtain ⟨w1, hw1⟩ : ∃ w1, w1 = w.alloc (.cells #[.pointer (some ⟨u.g, 0, none⟩), .int .u32 (f.cl : Int), .int .u32 (f.no : Int), .int .u32 (f.re : Int), .int .u32 (f.ak : Int), .int .u32 (f.ca : Int), .int .u32 (f.rq : Int)] 116) := ⟨_, rfl⟩
  have B1 : Hid (Below w.heap.size w w1) := by rw [hw1]; exact tb_alloc_below _ _
  have K1 : Hid (w1.heap[w.heap.size]? = some (.cells #[.pointer (some ⟨u.g, 0, none⟩), .int .u32 (f.cl : Int), .int .u32 (f.no : Int), .int .u32 (f.re : Int), .int .u32 (f.ak : Int), .int .u32 (f.ca : Int), .int .u32 (f.rq : Int)] 116 (0, 0))) := by rw [hw1]; exact heap_alloc_new _ _
  have HW1 := Lib.hid hw1
  have RB : Hid (u.rb < w.heap.size) := h.rlt
  have A1 : Hid (AutoAt w1 u S) := h.below B1.out
  have LT : Hid (∀ i, i < r.tr.length → 0 ≤ r.tr.getD i 0) := ht
  have HU := Lib.hid hu; have HRL := Lib.hid hr
  clear hw1 hc hR hrt hvr hvs htr h hrr x1 hb ht hu hr
  generalize hlen : u.T.rts.length = m at *
  have HLEN := Lib.hid hlen
  clear hlen
  obtain ⟨fb, hfb⟩ : ∃ fb, fb = w.heap.size := ⟨_, rfl⟩
  have HFB := Lib.hid hfb
  rw [← hfb] at K1
  go_enter Try.func64, Try.ntmps64
  go_upto_region 1 with fail
  rw [← HW1.out, ← hfb]
  clear hfb
  have c0 := cell_row (j := 0) K1.out rfl
  have l1 := heap_lt K1.out
  obtain ⟨g3, g4, lg, lb, x1, _⟩ := HG.out w1 S A1.out
  go_wp2_with fail
  clear c0 l1 g3 g4 lg lb x1
  go_loopw [29] (fun i wr => ∃ k : Nat, k ≤ r.tr.length ∧ i = .int .i64 k ∧ AutoAt wr u (S.setR n { S.R n with us := usedN f r.tr (S.R n).us k }) ∧ Only (fun b => b = u.rb) w1 wr) (fun i _ => r.tr.length - (intOf i).toNat)
  case atStart => exact ⟨0, Nat.zero_le _, rfl, by
    have := S.setR_same n
    show AutoAt w1 u (S.setR n (S.R n))
    rw [this]; exact A1.out, Only.refl _ _⟩
  case round =>
    obtain ⟨k, hk, rfl, ha, ho⟩ := hrel
    have A2 := Lib.hid ha; have O2 := Lib.hid ho
    clear ha ho
    obtain ⟨w2, rfl⟩ : ∃ w2 : World, w2 = wr := ⟨_, rfl⟩
    have K2 : Hid (w2.heap[fb]? = some (.cells #[.pointer (some ⟨u.g, 0, none⟩), .int .u32 (f.cl : Int), .int .u32 (f.no : Int), .int .u32 (f.re : Int), .int .u32 (f.ak : Int), .int .u32 (f.ca : Int), .int .u32 (f.rq : Int)] 116 (0, 0))) := (O2.out.block _ (heap_lt K1.out) (by have := RB.out; have := HFB.out; omega)).trans K1.out
    by_cases hlt : k < r.tr.length
    · obtain ⟨pb, poff, rfl, hpb, x0⟩ := (HG.out w2 _ A2.out).2.2.2.2.2.cell hlt
      have HCL := Lib.hid (fun W => clear_any u f (r.tr.getD k 0) W hf (LT.out k hlt))
      have HUS : Hid (usedN f r.tr (S.R n).us (k + 1) = if bt f.cl (r.tr.getD k 0) then usedN f r.tr (S.R n).us k else usedN f r.tr (S.R n).us k ||| 2 ^ k) := rfl
      have HUL : Hid (usedN f r.tr (S.R n).us k < 4294967296) := usedN_lt f r.tr _ HU.out k (by omega)
      generalize r.tr.getD k 0 = y at *
      have c0 := cell_row (j := 0) K2.out rfl
      have c1 := cell_row (j := 1) K2.out rfl
      have c2 := cell_row (j := 2) K2.out rfl
      have c3 := cell_row (j := 3) K2.out rfl
      have c4 := cell_row (j := 4) K2.out rfl
      have c5 := cell_row (j := 5) K2.out rfl
      have c6 := cell_row (j := 6) K2.out rfl
      have l1 := heap_lt K2.out
      cases hy : bt f.cl y
      case true =>
        rw [hy] at HCL
        have HUE : Hid (usedN f r.tr (S.R n).us (k + 1) = usedN f r.tr (S.R n).us k) := by show _ = _; rw [HUS.out, hy]; rfl
        clear hy
        go_wp2_with fail
        (with_reducible refine (HCL.out _).mono ?_)
        rintro e w3 ⟨rfl, hb⟩
        have A3 := Lib.hid (A2.out.below hb); have O3 := Lib.hid (O2.out.trans (Only.of_below _ hb))
        clear hb c0 c1 c2 c3 c4 c5 c6 l1 x0
        go_wp2_with fail
        go_roundw
        case rel => exact ⟨k + 1, by omega, by go_num, by rw [HUE.out]; exact A3.out, O3.out⟩
        case measure => simp [intOf]; omega
      case false =>
        rw [hy] at HCL
        have HUE : Hid (usedN f r.tr (S.R n).us (k + 1) = usedN f r.tr (S.R n).us k ||| 2 ^ k) := by show _ = _; rw [HUS.out, hy]; rfl
        clear hy
        go_wp2_with fail
        (with_reducible refine (HCL.out _).mono ?_)
        rintro e w3 ⟨rfl, hb⟩
        have A3 := Lib.hid (A2.out.below hb); have O3 := Lib.hid (O2.out.trans (Only.of_below _ hb))
        clear hb c0 c1 c2 c3 c4 c5 c6 l1 x0
        obtain ⟨-, -, r2, -, fr⟩ := A3.out.rcell (n := n) (by rw [HLEN.out]; exact hn)
        rw [S.setR_R] at r2
        have r2' : w3.cell? ⟨u.rb, n * 4 + 2, none⟩ = some (.int .u32 ((usedN f r.tr (S.R n).us k : Nat) : Int)) := r2
        have f2 := fr (n * 4 + 2)
        have lr := A3.out.rlt
        have HOB := Lib.hid (or_bit (usedN f r.tr (S.R n).us k) k HUL.out (by omega))
        clear r2 fr
        generalize usedN f r.tr (S.R n).us k = us at *
        go_wp2_with fail
        go_region
        all_goals
          rw [HOB.out]
          have A4 : Hid (AutoAt (w3.setCell ⟨u.rb, n * 4 + 2, none⟩ (.int .u32 ((us ||| 2 ^ k : Nat) : Int))).drew u (S.setR n { S.R n with us := us ||| 2 ^ k })) := by
            have := (A3.out.setUs (n := n) (by rw [HLEN.out]; exact hn) (us ||| 2 ^ k)).drew
            rw [S.setR_setR, S.setR_R] at this
            exact this
          have O4 : Hid (Only (fun b => b = u.rb) w1 (w3.setCell ⟨u.rb, n * 4 + 2, none⟩ (.int .u32 ((us ||| 2 ^ k : Nat) : Int))).drew) := (O3.out.set _ _ (.inr rfl)).drew
          generalize (w3.setCell ⟨u.rb, n * 4 + 2, none⟩ (.int .u32 ((us ||| 2 ^ k : Nat) : Int))).drew = w4 at *
          clear r2' f2 lr A3 O3
          go_wp2_with fail
          go_roundw
          case rel => exact ⟨k + 1, by omega, by go_num, by rw [HUE.out]; exact A4.out, O4.out⟩
          case measure => simp [intOf]; omega
    · obtain rfl : k = r.tr.length := by omega
      obtain ⟨US, hUS⟩ : ∃ x, x = usedN f r.tr (S.R n).us r.tr.length := ⟨_, rfl⟩
      have HUSL : Hid (US < 4294967296) := by show _ < _; rw [hUS]; exact usedN_lt f r.tr _ HU.out _ hl
      have HUS := Lib.hid hUS
      rw [← hUS] at A2
      clear hUS
      obtain ⟨len, hlen⟩ : ∃ len, len = r.tr.length := ⟨_, rfl⟩
      have HLN := Lib.hid hlen
      have HR0 : Hid (relN f r.tr US (S.R n).rl 0 = (S.R n).rl) := rfl
      go_wp2_with fail
      go_loopw [50] (fun i wr => ∃ k : Nat, k ≤ r.tr.length ∧ i = .int .i64 k ∧ AutoAt wr u (S.setR n { S.R n with us := US, rl := relN f r.tr US (S.R n).rl k }) ∧ Only (fun b => b = u.rb) w1 wr) (fun i _ => r.tr.length - (intOf i).toNat)
      case atStart => exact ⟨0, Nat.zero_le _, rfl, A2.out, O2.out⟩
      case round =>
        clear A2 O2 K2 hlt
        obtain ⟨k, hk, rfl, ha, ho⟩ := hrel
        have A2 := Lib.hid ha; have O2 := Lib.hid ho
        clear ha ho
        obtain ⟨w3, rfl⟩ : ∃ w3 : World, w3 = wr := ⟨_, rfl⟩
        have K2 : Hid (w3.heap[fb]? = some (.cells #[.pointer (some ⟨u.g, 0, none⟩), .int .u32 (f.cl : Int), .int .u32 (f.no : Int), .int .u32 (f.re : Int), .int .u32 (f.ak : Int), .int .u32 (f.ca : Int), .int .u32 (f.rq : Int)] 116 (0, 0))) := (O2.out.block _ (heap_lt K1.out) (by have := RB.out; have := HFB.out; omega)).trans K1.out
        have HRLK : Hid (relN f r.tr US (S.R n).rl k < 4294967296) := relN_lt f r.tr US _ HRL.out k (by omega)
        obtain ⟨-, -, r2, r3, fr⟩ := A2.out.rcell (n := n) (by rw [HLEN.out]; exact hn)
        rw [S.setR_R] at r2 r3
        have r2' : w3.cell? ⟨u.rb, n * 4 + 2, none⟩ = some (.int .u32 (US : Int)) := r2
        have r3' : w3.cell? ⟨u.rb, n * 4 + 3, none⟩ = some (.int .u32 ((relN f r.tr US (S.R n).rl k : Nat) : Int)) := r3
        have f3 := fr (n * 4 + 3)
        have lr := A2.out.rlt
        clear r2 r3 fr
        by_cases hlt : k < r.tr.length
        · obtain ⟨pb, poff, rfl, hpb, x0⟩ := (HG.out w3 _ A2.out).2.2.2.2.2.cell hlt
          have HCL := Lib.hid (fun W => clear_any u f (r.tr.getD k 0) W hf (LT.out k hlt))
          have HRN : Hid (relN f r.tr US (S.R n).rl (k + 1) = if (k == 0 || (relN f r.tr US (S.R n).rl k).testBit (k - 1)) && US.testBit k && bt f.cl (r.tr.getD k 0) && (k + 1 == r.tr.length || US.testBit (k + 1)) then relN f r.tr US (S.R n).rl k ||| 2 ^ k else relN f r.tr US (S.R n).rl k) := rfl
          have HB1 := Lib.hid (fun W => bit_any (relN f r.tr US (S.R n).rl k) (k - 1) W HRLK.out)
          have HB2 := Lib.hid (fun W => bit_any US k W HUSL.out)
          have HB4 := Lib.hid (fun W => bit_any US (k + 1) W HUSL.out)
          rw [show ((k + 1 : Nat) : Int) = (k : Int) + 1 by omega] at HB4
          generalize hy : r.tr.getD k 0 = y at *
          clear hy
          have c0 := cell_row (j := 0) K2.out rfl
          have c1 := cell_row (j := 1) K2.out rfl
          have c2 := cell_row (j := 2) K2.out rfl
          have c3 := cell_row (j := 3) K2.out rfl
          have c4 := cell_row (j := 4) K2.out rfl
          have c5 := cell_row (j := 5) K2.out rfl
          have c6 := cell_row (j := 6) K2.out rfl
          have l1 := heap_lt K2.out
          have HOB := Lib.hid (or_bit (relN f r.tr US (S.R n).rl k) k HRLK.out (by omega))
          generalize relN f r.tr US (S.R n).rl k = rl at *
          generalize hb1 : rl.testBit (k - 1) = b1 at *
          generalize hb2 : US.testBit k = b2 at *
          generalize hb4 : US.testBit (k + 1) = b4 at *
          generalize hb3 : bt f.cl y = b3 at *
          clear hb1 hb2 hb3 hb4
          by_cases hk0 : k = 0
          · have q0 : ((k : Int) == 0) = true := by simp [hk0]
            have q0' : (k == 0) = true := by simp [hk0]
            rw [q0'] at HRN
            clear q0' hk0
            cases b2
            case false =>
              go_wp2_with fail
              (with_reducible refine (HB2.out _).mono ?_)
              rintro e w3 ⟨rfl, rfl⟩
              have HRE : Hid (relN f r.tr US (S.R n).rl (k + 1) = rl) := by show _ = _; rw [HRN.out]; skip; simp
              clear HRN HB1 HB2 HB4 HCL HOB
              go_wp2_with fail
              go_roundw
              case rel => exact ⟨k + 1, by omega, by go_num, by rw [HRE.out]; exact A2.out, O2.out⟩
              case measure => simp [intOf]; omega
            case true =>
            go_wp2_with fail
            (with_reducible refine (HB2.out _).mono ?_)
            rintro e w3 ⟨rfl, rfl⟩
            cases b3
            case false =>
              go_wp2_with fail
              (with_reducible refine (HCL.out _).mono ?_)
              rintro e w4 ⟨rfl, hb⟩
              have A3 := Lib.hid (A2.out.below hb); have O3 := Lib.hid (O2.out.trans (Only.of_below _ hb))
              clear hb c0 c1 c2 c3 c4 c5 c6 l1 x0 r2' r3' f3 lr
              have HRE : Hid (relN f r.tr US (S.R n).rl (k + 1) = rl) := by show _ = _; rw [HRN.out]; skip; simp
              clear HRN HB1 HB2 HB4 HCL HOB
              go_wp2_with fail
              go_roundw
              case rel => exact ⟨k + 1, by omega, by go_num, by rw [HRE.out]; exact A3.out, O3.out⟩
              case measure => simp [intOf]; omega
            case true =>
            go_wp2_with fail
            (with_reducible refine (HCL.out _).mono ?_)
            rintro e w4 ⟨rfl, hb⟩
            have A3 := Lib.hid (A2.out.below hb); have O3 := Lib.hid (O2.out.trans (Only.of_below _ hb))
            clear hb c0 c1 c2 c3 c4 c5 c6 l1 x0 r2' r3' f3 lr
            by_cases hkl : k + 1 = r.tr.length
            · have q1 : ((k : Int) == (r.tr.length : Int) - 1) = true := by simp; omega
              have q2 : (k + 1 == r.tr.length) = true := by simpa using hkl
              rw [q2] at HRN
              clear hkl q2
              have HRE : Hid (relN f r.tr US (S.R n).rl (k + 1) = rl ||| 2 ^ k) := by show _ = _; rw [HRN.out]; skip; simp
              clear HRN HB1 HB2 HB4 HCL
              obtain ⟨-, -, r2, r3, fr⟩ := A3.out.rcell (n := n) (by rw [HLEN.out]; exact hn)
              rw [S.setR_R] at r2 r3
              have r2' : w4.cell? ⟨u.rb, n * 4 + 2, none⟩ = some (.int .u32 (US : Int)) := r2
              have r3' : w4.cell? ⟨u.rb, n * 4 + 3, none⟩ = some (.int .u32 (rl : Int)) := r3
              have f3 := fr (n * 4 + 3)
              have lr := A3.out.rlt
              clear r2 r3 fr
              go_wp2_with fail
              go_region
              all_goals
                rw [HOB.out]
                have A4 : Hid (AutoAt (w4.setCell ⟨u.rb, n * 4 + 3, none⟩ (.int .u32 ((rl ||| 2 ^ k : Nat) : Int))).drew u (S.setR n { S.R n with us := US, rl := rl ||| 2 ^ k })) := by
                  have := (A3.out.setRl (n := n) (by rw [HLEN.out]; exact hn) (rl ||| 2 ^ k)).drew
                  rw [S.setR_setR, S.setR_R] at this
                  exact this
                have O4 : Hid (Only (fun b => b = u.rb) w1 (w4.setCell ⟨u.rb, n * 4 + 3, none⟩ (.int .u32 ((rl ||| 2 ^ k : Nat) : Int))).drew) := (O3.out.set _ _ (.inr rfl)).drew
                generalize (w4.setCell ⟨u.rb, n * 4 + 3, none⟩ (.int .u32 ((rl ||| 2 ^ k : Nat) : Int))).drew = w9 at *
                clear r2' r3' f3 lr
                go_wp2_with fail
                go_roundw
                case rel => exact ⟨k + 1, by omega, by go_num, by rw [HRE.out]; exact A4.out, O4.out⟩
                case measure => simp [intOf]; omega
            · have q1 : ((k : Int) == (r.tr.length : Int) - 1) = false := by simp; omega
              have q2 : (k + 1 == r.tr.length) = false := by simpa using hkl
              rw [q2] at HRN
              clear hkl q2
              obtain ⟨-, -, r2, r3, fr⟩ := A3.out.rcell (n := n) (by rw [HLEN.out]; exact hn)
              rw [S.setR_R] at r2 r3
              have r2' : w4.cell? ⟨u.rb, n * 4 + 2, none⟩ = some (.int .u32 (US : Int)) := r2
              have lr := A3.out.rlt
              clear r2 r3 fr
              go_wp2_with fail
              (with_reducible refine (HB4.out _).mono ?_)
              rintro e w4 ⟨rfl, rfl⟩
              clear r2' lr
              cases b4
              case false =>
                have HRE : Hid (relN f r.tr US (S.R n).rl (k + 1) = rl) := by show _ = _; rw [HRN.out]; skip; simp
                clear HRN HB1 HB2 HB4 HCL HOB
                go_wp2_with fail
                go_roundw
                case rel => exact ⟨k + 1, by omega, by go_num, by rw [HRE.out]; exact A3.out, O3.out⟩
                case measure => simp [intOf]; omega
              case true =>
                have HRE : Hid (relN f r.tr US (S.R n).rl (k + 1) = rl ||| 2 ^ k) := by show _ = _; rw [HRN.out]; skip; simp
                clear HRN HB1 HB2 HB4 HCL
                obtain ⟨-, -, r2, r3, fr⟩ := A3.out.rcell (n := n) (by rw [HLEN.out]; exact hn)
                rw [S.setR_R] at r2 r3
                have r2' : w4.cell? ⟨u.rb, n * 4 + 2, none⟩ = some (.int .u32 (US : Int)) := r2
                have r3' : w4.cell? ⟨u.rb, n * 4 + 3, none⟩ = some (.int .u32 (rl : Int)) := r3
                have f3 := fr (n * 4 + 3)
                have lr := A3.out.rlt
                clear r2 r3 fr
                go_wp2_with fail
                go_region
                all_goals
                  rw [HOB.out]
                  have A4 : Hid (AutoAt (w4.setCell ⟨u.rb, n * 4 + 3, none⟩ (.int .u32 ((rl ||| 2 ^ k : Nat) : Int))).drew u (S.setR n { S.R n with us := US, rl := rl ||| 2 ^ k })) := by
                    have := (A3.out.setRl (n := n) (by rw [HLEN.out]; exact hn) (rl ||| 2 ^ k)).drew
                    rw [S.setR_setR, S.setR_R] at this
                    exact this
                  have O4 : Hid (Only (fun b => b = u.rb) w1 (w4.setCell ⟨u.rb, n * 4 + 3, none⟩ (.int .u32 ((rl ||| 2 ^ k : Nat) : Int))).drew) := (O3.out.set _ _ (.inr rfl)).drew
                  generalize (w4.setCell ⟨u.rb, n * 4 + 3, none⟩ (.int .u32 ((rl ||| 2 ^ k : Nat) : Int))).drew = w9 at *
                  clear r2' r3' f3 lr
                  go_wp2_with fail
                  go_roundw
                  case rel => exact ⟨k + 1, by omega, by go_num, by rw [HRE.out]; exact A4.out, O4.out⟩
                  case measure => simp [intOf]; omega
          · have q0 : ((k : Int) == 0) = false := by simp; omega
            have q0' : (k == 0) = false := by simpa using hk0
            rw [q0'] at HRN
            rw [show ((k - 1 : Nat) : Int) = (k : Int) - 1 by omega] at HB1
            have hk1 : 1 ≤ k := by omega
            clear q0' hk0
            cases b1
            case false =>
              go_wp2_with fail
              (with_reducible refine (HB1.out _).mono ?_)
              rintro e w3 ⟨rfl, rfl⟩
              have HRE : Hid (relN f r.tr US (S.R n).rl (k + 1) = rl) := by show _ = _; rw [HRN.out]; skip; simp
              clear HRN HB1 HB2 HB4 HCL HOB
              go_wp2_with fail
              go_roundw
              case rel => exact ⟨k + 1, by omega, by go_num, by rw [HRE.out]; exact A2.out, O2.out⟩
              case measure => simp [intOf]; omega
            case true =>
            go_wp2_with fail
            (with_reducible refine (HB1.out _).mono ?_)
            rintro e w3 ⟨rfl, rfl⟩
            cases b2
            case false =>
              go_wp2_with fail
              (with_reducible refine (HB2.out _).mono ?_)
              rintro e w3 ⟨rfl, rfl⟩
              have HRE : Hid (relN f r.tr US (S.R n).rl (k + 1) = rl) := by show _ = _; rw [HRN.out]; skip; simp
              clear HRN HB1 HB2 HB4 HCL HOB
              go_wp2_with fail
              go_roundw
              case rel => exact ⟨k + 1, by omega, by go_num, by rw [HRE.out]; exact A2.out, O2.out⟩
              case measure => simp [intOf]; omega
            case true =>
            go_wp2_with fail
            (with_reducible refine (HB2.out _).mono ?_)
            rintro e w3 ⟨rfl, rfl⟩
            cases b3
            case false =>
              go_wp2_with fail
              (with_reducible refine (HCL.out _).mono ?_)
              rintro e w4 ⟨rfl, hb⟩
              have A3 := Lib.hid (A2.out.below hb); have O3 := Lib.hid (O2.out.trans (Only.of_below _ hb))
              clear hb c0 c1 c2 c3 c4 c5 c6 l1 x0 r2' r3' f3 lr
              have HRE : Hid (relN f r.tr US (S.R n).rl (k + 1) = rl) := by show _ = _; rw [HRN.out]; skip; simp
              clear HRN HB1 HB2 HB4 HCL HOB
              go_wp2_with fail
              go_roundw
              case rel => exact ⟨k + 1, by omega, by go_num, by rw [HRE.out]; exact A3.out, O3.out⟩
              case measure => simp [intOf]; omega
            case true =>
            go_wp2_with fail
            (with_reducible refine (HCL.out _).mono ?_)
            rintro e w4 ⟨rfl, hb⟩
            have A3 := Lib.hid (A2.out.below hb); have O3 := Lib.hid (O2.out.trans (Only.of_below _ hb))
            clear hb c0 c1 c2 c3 c4 c5 c6 l1 x0 r2' r3' f3 lr
            by_cases hkl : k + 1 = r.tr.length
            · have q1 : ((k : Int) == (r.tr.length : Int) - 1) = true := by simp; omega
              have q2 : (k + 1 == r.tr.length) = true := by simpa using hkl
              rw [q2] at HRN
              clear hkl q2
              have HRE : Hid (relN f r.tr US (S.R n).rl (k + 1) = rl ||| 2 ^ k) := by show _ = _; rw [HRN.out]; skip; simp
              clear HRN HB1 HB2 HB4 HCL
              obtain ⟨-, -, r2, r3, fr⟩ := A3.out.rcell (n := n) (by rw [HLEN.out]; exact hn)
              rw [S.setR_R] at r2 r3
              have r2' : w4.cell? ⟨u.rb, n * 4 + 2, none⟩ = some (.int .u32 (US : Int)) := r2
              have r3' : w4.cell? ⟨u.rb, n * 4 + 3, none⟩ = some (.int .u32 (rl : Int)) := r3
              have f3 := fr (n * 4 + 3)
              have lr := A3.out.rlt
              clear r2 r3 fr
              go_wp2_with fail
              go_region
              all_goals
                rw [HOB.out]
                have A4 : Hid (AutoAt (w4.setCell ⟨u.rb, n * 4 + 3, none⟩ (.int .u32 ((rl ||| 2 ^ k : Nat) : Int))).drew u (S.setR n { S.R n with us := US, rl := rl ||| 2 ^ k })) := by
                  have := (A3.out.setRl (n := n) (by rw [HLEN.out]; exact hn) (rl ||| 2 ^ k)).drew
                  rw [S.setR_setR, S.setR_R] at this
                  exact this
                have O4 : Hid (Only (fun b => b = u.rb) w1 (w4.setCell ⟨u.rb, n * 4 + 3, none⟩ (.int .u32 ((rl ||| 2 ^ k : Nat) : Int))).drew) := (O3.out.set _ _ (.inr rfl)).drew
                generalize (w4.setCell ⟨u.rb, n * 4 + 3, none⟩ (.int .u32 ((rl ||| 2 ^ k : Nat) : Int))).drew = w9 at *
                clear r2' r3' f3 lr
                go_wp2_with fail
                go_roundw
                case rel => exact ⟨k + 1, by omega, by go_num, by rw [HRE.out]; exact A4.out, O4.out⟩
                case measure => simp [intOf]; omega
            · have q1 : ((k : Int) == (r.tr.length : Int) - 1) = false := by simp; omega
              have q2 : (k + 1 == r.tr.length) = false := by simpa using hkl
              rw [q2] at HRN
              clear hkl q2
              obtain ⟨-, -, r2, r3, fr⟩ := A3.out.rcell (n := n) (by rw [HLEN.out]; exact hn)
              rw [S.setR_R] at r2 r3
              have r2' : w4.cell? ⟨u.rb, n * 4 + 2, none⟩ = some (.int .u32 (US : Int)) := r2
              have lr := A3.out.rlt
              clear r2 r3 fr
              go_wp2_with fail
              (with_reducible refine (HB4.out _).mono ?_)
              rintro e w4 ⟨rfl, rfl⟩
              clear r2' lr
              cases b4
              case false =>
                have HRE : Hid (relN f r.tr US (S.R n).rl (k + 1) = rl) := by show _ = _; rw [HRN.out]; skip; simp
                clear HRN HB1 HB2 HB4 HCL HOB
                go_wp2_with fail
                go_roundw
                case rel => exact ⟨k + 1, by omega, by go_num, by rw [HRE.out]; exact A3.out, O3.out⟩
                case measure => simp [intOf]; omega
              case true =>
                have HRE : Hid (relN f r.tr US (S.R n).rl (k + 1) = rl ||| 2 ^ k) := by show _ = _; rw [HRN.out]; skip; simp
                clear HRN HB1 HB2 HB4 HCL
                obtain ⟨-, -, r2, r3, fr⟩ := A3.out.rcell (n := n) (by rw [HLEN.out]; exact hn)
                rw [S.setR_R] at r2 r3
                have r2' : w4.cell? ⟨u.rb, n * 4 + 2, none⟩ = some (.int .u32 (US : Int)) := r2
                have r3' : w4.cell? ⟨u.rb, n * 4 + 3, none⟩ = some (.int .u32 (rl : Int)) := r3
                have f3 := fr (n * 4 + 3)
                have lr := A3.out.rlt
                clear r2 r3 fr
                go_wp2_with fail
                go_region
                all_goals
                  rw [HOB.out]
                  have A4 : Hid (AutoAt (w4.setCell ⟨u.rb, n * 4 + 3, none⟩ (.int .u32 ((rl ||| 2 ^ k : Nat) : Int))).drew u (S.setR n { S.R n with us := US, rl := rl ||| 2 ^ k })) := by
                    have := (A3.out.setRl (n := n) (by rw [HLEN.out]; exact hn) (rl ||| 2 ^ k)).drew
                    rw [S.setR_setR, S.setR_R] at this
                    exact this
                  have O4 : Hid (Only (fun b => b = u.rb) w1 (w4.setCell ⟨u.rb, n * 4 + 3, none⟩ (.int .u32 ((rl ||| 2 ^ k : Nat) : Int))).drew) := (O3.out.set _ _ (.inr rfl)).drew
                  generalize (w4.setCell ⟨u.rb, n * 4 + 3, none⟩ (.int .u32 ((rl ||| 2 ^ k : Nat) : Int))).drew = w9 at *
                  clear r2' r3' f3 lr
                  go_wp2_with fail
                  go_roundw
                  case rel => exact ⟨k + 1, by omega, by go_num, by rw [HRE.out]; exact A4.out, O4.out⟩
                  case measure => simp [intOf]; omega
        · obtain rfl : k = r.tr.length := by omega
          clear hlt
          have HPM := Lib.hid (pow_mod32 r.tr.length (by omega))
          go_wp2_with fail
          go_quiet (fail)
          have A4 := Lib.hid (A2.out.drewN (k := nq)); have O4 := Lib.hid (O2.out.drewN (n := nq))
          generalize w3.drewN nq = w4 at *
          clear A2 O2 r2' r3' f3 lr HPM
          have hte := eq_full (relN f r.tr US (S.R n).rl r.tr.length) r.tr.length (by omega)
          have HTR2 : Hid (trainR f r.tr (S.R n) = if relN f r.tr US (S.R n).rl r.tr.length = 2 ^ r.tr.length - 1 then rs0 else { S.R n with us := US, rl := relN f r.tr US (S.R n).rl r.tr.length }) := by show _ = _; rw [HUS.out]; rfl
          generalize relN f r.tr US (S.R n).rl r.tr.length = RL at *
          have O9 : Hid (∀ W, Only (fun b => b = u.rb) w1 W → Only (fun b => b = u.rb) w W) := fun W hW => (Only.of_below _ B1.out).trans hW
          by_cases hq : RL = 2 ^ r.tr.length - 1
          · have t : ((RL : Int) == ((2 : Int) ^ r.tr.length - 1) % 4294967296) = true := by rw [hte]; simpa using hq
            have HRS : Hid (trainR f r.tr (S.R n) = rs0) := by show _ = _; rw [HTR2.out, if_pos hq]
            clear hte hq HTR2
            obtain ⟨r0, r1, r2, r3, fr⟩ := A4.out.rcell (n := n) (by rw [HLEN.out]; exact hn)
            have f0 := fr (n * 4); have f1 := fr (n * 4 + 1); have f2 := fr (n * 4 + 2); have f3 := fr (n * 4 + 3)
            have lr := A4.out.rlt
            clear fr
            go_wp2_with fail
            go_end0
            refine ⟨rfl, ?_, ?_⟩
            · rw [HRS.out]
              have := A4.out.setAll (n := n) (by rw [HLEN.out]; exact hn) rs0
              rw [S.setR_setR] at this
              exact this
            · exact O9.out _ ((((O4.out.set _ _ (.inr rfl)).set _ _ (.inr rfl)).set _ _ (.inr rfl)).set _ _ (.inr rfl))
          · have t : ((RL : Int) == ((2 : Int) ^ r.tr.length - 1) % 4294967296) = false := by rw [hte]; simpa using hq
            have HRS : Hid (trainR f r.tr (S.R n) = { S.R n with us := US, rl := RL }) := by show _ = _; rw [HTR2.out, if_neg hq]
            clear hte hq HTR2
            go_wp2_with fail
            go_end0
            refine ⟨rfl, ?_, ?_⟩
            · rw [HRS.out]; exact A4.out
            · exact O9.out _ O4.out
end Go.Proofs.Ytnjeiigdfdjccaa
