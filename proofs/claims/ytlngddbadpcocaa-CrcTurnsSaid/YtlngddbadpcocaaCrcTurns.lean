/- The walk of CrcTurns: of three rows turned by one another the sum is the sums' turned by one another. -/
import Derived.Test.YtlngddbadpcocaaCrcKeeps
import Derived.Test.YtlngddbadpcocaaCrcParts
import Derived.Deep.RegionHeld3
import Derived.Deep.OwnRows
import Derived.BigRegion
namespace Go.Proofs.Ytlngddbadpcocaa
open Go.RowKit
set_option linter.unusedVariables false
/-- A row of n numbers of which the first k are laid. -/
def partRow (kd : IntKind) (n : Nat) (f : Nat → Nat) (k : Nat) : Array Value := ((List.range n).map fun j => Value.int kd (if j < k then (f j : Int) else 0)).toArray
theorem partRow_size (kd : IntKind) (n : Nat) (f : Nat → Nat) (k : Nat) : (partRow kd n f k).size = n := by simp [partRow]
theorem partRow_get (kd : IntKind) (n : Nat) (f : Nat → Nat) (k j : Nat) (h : j < n) : (partRow kd n f k)[j]? = some (Value.int kd (if j < k then (f j : Int) else 0)) := by
  simp [partRow, h]
theorem partRow_set (kd : IntKind) (n : Nat) (f : Nat → Nat) (k : Nat) (h : k < n) : (partRow kd n f k).setIfInBounds k (.int kd (f k)) = partRow kd n f (k + 1) := by
  apply Array.ext_getElem?
  intro i
  rw [Array.getElem?_setIfInBounds]
  by_cases hi : i < n
  · rw [partRow_get kd n f (k + 1) i hi]
    by_cases e : k = i
    · subst e; simp [partRow_size, h]
    · rw [if_neg e, partRow_get kd n f k i hi]
      have : i < k ↔ i < k + 1 := by omega
      simp [this]
  · have h1 : (partRow kd n f k)[i]? = none := by simp [partRow_size]; omega
    have h2 : (partRow kd n f (k + 1))[i]? = none := by simp [partRow_size]; omega
    rw [if_neg (by omega), h1, h2]
theorem partRow_zero (kd : IntKind) (n : Nat) (f : Nat → Nat) : madeCells #[.int kd 0] n = partRow kd n f 0 := by
  apply Array.ext_getElem?
  intro i
  by_cases hi : i < n
  · rw [partRow_get kd n f 0 i hi]; simp [madeCells, hi, Nat.mod_one]
  · have h2 : (partRow kd n f 0)[i]? = none := by simp [partRow_size]; omega
    rw [h2]; simp [madeCells]; omega
theorem infoU8 : (Try.prog.info? 5).map (fun i => (i.zero, i.size, i.bytes)) = some (some (.int .u8 0), 1, 1) := by kernel_rfl
/-- The third row turned by one another. -/
def turn3 (A B C : List Nat) (j : Nat) : Nat := (A.getD j 0 ^^^ B.getD j 0) ^^^ C.getD j 0
theorem BytesAt.at {w : World} {a : Option Addr} {l : List Nat} (h : BytesAt w a l) (hp : 0 < l.length) : ∃ b off, a = some ⟨b, off, none⟩ ∧ b < w.heap.size ∧ ∀ i, i < l.length → w.cell? ⟨b, off + i, none⟩ = some (.int .u8 (l.getD i 0 : Nat)) := by
  rcases h.2 with h0 | h0
  · rw [h0] at hp; simp at hp
  · exact h0

theorem xor6 (a b c d e f : Nat) : ((a ^^^ b) ^^^ c) ^^^ ((d ^^^ e) ^^^ f) = ((a ^^^ d) ^^^ (b ^^^ e)) ^^^ (c ^^^ f) := by
  rw [Pl.xor4 (a ^^^ b), Pl.xor4 a]
theorem rem_turn3 (A B C : List Nat) (r s t : Nat) (k : Nat) (ha : k ≤ A.length) (hb : k ≤ B.length) (hc : k ≤ C.length) :
    Pl.rem ((r ^^^ s) ^^^ t) ((List.range k).map (turn3 A B C)) = (Pl.rem r (A.take k) ^^^ Pl.rem s (B.take k)) ^^^ Pl.rem t (C.take k) := by
  induction k with
  | zero => simp [Pl.rem]
  | succ k ih =>
    rw [List.range_succ, List.map_append, List.map_singleton, Pl.rem_snoc, ih (by omega) (by omega) (by omega), take_snoc (by omega), take_snoc (by omega), take_snoc (by omega), Pl.rem_snoc, Pl.rem_snoc, Pl.rem_snoc]
    unfold turn3
    rw [xor6, Pl.btN_xor, Pl.btN_xor]
theorem flip32 (x : Nat) (h : x < 4294967296) : 4294967295 - x = x ^^^ 4294967295 := by
  have h1 := BitVec.toNat_not (x := BitVec.ofNat 32 x)
  rw [← BitVec.xor_allOnes, BitVec.toNat_xor] at h1
  simp [Nat.mod_eq_of_lt h] at h1
  omega
theorem more_turn3 (A B C : List Nat) (hA : ∀ c ∈ A, c < 256) (hB : ∀ c ∈ B, c < 256) (hC : ∀ c ∈ C, c < 256) (k : Nat) (ha : k ≤ A.length) (hb : k ≤ B.length) (hc : k ≤ C.length) :
    Pl.more 0 ((List.range k).map (turn3 A B C)) = (Pl.more 0 (A.take k) ^^^ Pl.more 0 (B.take k)) ^^^ Pl.more 0 (C.take k) := by
  have h := rem_turn3 A B C 4294967295 4294967295 4294967295 k ha hb hc
  have e : (4294967295 ^^^ 4294967295) ^^^ 4294967295 = 4294967295 := by decide
  rw [e] at h
  have la := Pl.rem_lt (A.take k) 4294967295 (by omega) (take_mem hA k)
  have lb := Pl.rem_lt (B.take k) 4294967295 (by omega) (take_mem hB k)
  have lc := Pl.rem_lt (C.take k) 4294967295 (by omega) (take_mem hC k)
  unfold Pl.more
  simp only [Nat.sub_zero]
  rw [h, flip32 _ (Pl.xor_lt32 (Pl.xor_lt32 la lb) lc), flip32 _ la, flip32 _ lb, flip32 _ lc, Pl.xor4 (Pl.rem _ _), Pl.xor4 (_ ^^^ _), e]

set_option maxHeartbeats 2000000 in
theorem turns_in (a b c : Option Addr) (la lb lc ca cb cc n : Nat) (A B C : List Nat) (w : World) (ha : BytesAt w a A) (hb : BytesAt w b B) (hc : BytesAt w c C) (hA : A.length = la) (hB : B.length = lb) (hC : C.length = lc)
    (ka : la ≤ ca) (kb : lb ≤ cb) (kc : lc ≤ cc) (ma : ca ≤ 9223372036854775807) (mb : cb ≤ 9223372036854775807) (mc : cc ≤ 9223372036854775807) (na : n ≤ la) (nb : n ≤ lb) (nc : n ≤ lc) (hn : n = min (min la lb) lc) (hs : n ≤ 100000) :
    Calls Try.prog 7 #[.slice a la ca, .slice b lb cb, .slice c lc cc] w fun e w' => e = .returned (.bool true) ∧ Below w.heap.size w w' := by
  have hmin : ∀ w, (Builtin.min_ #[3, 3, 3] 3 #[.int .i64 (la : Int), .int .i64 (lb : Int), .int .i64 (lc : Int)]).run Try.prog w = .ok (.int .i64 (n : Int)) w := by
    intro w
    simp [Builtin.min_, Builtin.min2]
    have : (if (lc : Int) < if lb < la then (lb : Int) else (la : Int) then (lc : Int) else if lb < la then (lb : Int) else (la : Int)) = (n : Int) := by
      split <;> split at * <;> omega
    rw [this]
  have hmk := fun w => run_make_row' (P := Try.prog) 26 5 (.int .u8 0) 1 Try.underlying26 infoU8 rfl .i64 .i64 n (by omega) (by omega) w
  have HA := Lib.hid ha; have HB := Lib.hid hb; have HC := Lib.hid hc
  have KA := Lib.hid hA; have KB := Lib.hid hB; have KC := Lib.hid hC
  have HN := Lib.hid hn
  clear hn ha hb hc hA hB hC
  go_enter Try.func7, Try.ntmps7
  go_wp2_with fail
  clear hmin hmk
  go_loopw [24] (fun i wr => ∃ k : Nat, k ≤ n ∧ i = .int .i64 k ∧ wr.heap.size = w.heap.size + 1 ∧ Below w.heap.size w wr ∧ wr.heap[w.heap.size]? = some (.cells (partRow .u8 n (turn3 A B C) k) 5 (0, 0))) (fun i _ => n - (intOf i).toNat)
  case atStart => exact ⟨0, Nat.zero_le _, rfl, by simp, (Below.refl _ _).alloc (Nat.le_refl _) _, by rw [← partRow_zero]; exact heap_alloc_new _ _⟩
  case round =>
    obtain ⟨k, hk, rfl, hsz, hbel, hrow⟩ := hrel
    have HS := Lib.hid hsz; have HW := Lib.hid hbel; have HR := Lib.hid hrow
    clear hsz hbel hrow
    by_cases hlt : k < n
    · obtain ⟨ba, oa, rfl, la', xa⟩ := HA.out.at (by rw [KA.out]; omega)
      obtain ⟨bb, ob, rfl, lb', xb⟩ := HB.out.at (by rw [KB.out]; omega)
      obtain ⟨bc, oc, rfl, lc', xc⟩ := HC.out.at (by rw [KC.out]; omega)
      have c1 : wr.cell? ⟨ba, oa + k, none⟩ = some (.int .u8 (A.getD k 0 : Nat)) := by rw [HW.out.cell la']; exact xa k (by rw [KA.out]; omega)
      have c2 : wr.cell? ⟨bb, ob + k, none⟩ = some (.int .u8 (B.getD k 0 : Nat)) := by rw [HW.out.cell lb']; exact xb k (by rw [KB.out]; omega)
      have c3 : wr.cell? ⟨bc, oc + k, none⟩ = some (.int .u8 (C.getD k 0 : Nat)) := by rw [HW.out.cell lc']; exact xc k (by rw [KC.out]; omega)
      clear xa xb xc
      have c4 : wr.cell? ⟨w.heap.size, k, none⟩ = some (.int .u8 (if k < k then (turn3 A B C k : Int) else 0)) := cell_row HR.out (partRow_get _ _ _ _ _ hlt)
      have c5 : wr.frozen? ⟨w.heap.size, k, none⟩ = false := frozen_of_row _ _ _ _ _ HR.out
      have ya := getD_mem_lt HA.out.1 k; have yb := getD_mem_lt HB.out.1 k; have yc := getD_mem_lt HC.out.1 k
      have HF : Hid (turn3 A B C k = (A.getD k 0 ^^^ B.getD k 0) ^^^ C.getD k 0) := rfl
      have x1 : bits .xor .u8 (A.getD k 0 : Nat) (B.getD k 0 : Nat) = ((A.getD k 0 ^^^ B.getD k 0 : Nat) : Int) := u8_xor_nat _ _ ya yb
      have x2 : bits .xor .u8 ((A.getD k 0 ^^^ B.getD k 0 : Nat) : Int) (C.getD k 0 : Nat) = ((A.getD k 0 ^^^ B.getD k 0 ^^^ C.getD k 0 : Nat) : Int) := u8_xor_nat _ _ (Nat.xor_lt_two_pow (n := 8) ya yb) yc
      rw [← HF.out] at x2
      generalize A.getD k 0 ^^^ B.getD k 0 = q at *
      obtain ⟨t, ht⟩ : ∃ t, t = turn3 A B C k := ⟨_, rfl⟩
      have HT : Hid (t = turn3 A B C k) := ht
      rw [← ht] at x2 c4
      clear ht HF
      generalize A.getD k 0 = p1 at *
      generalize B.getD k 0 = p2 at *
      generalize C.getD k 0 = p3 at *
      go_wp2_with fail
      go_region
      go_wp2_with fail
      go_roundw
      case rel =>
        refine ⟨k + 1, by omega, by go_num, ?_, ?_, ?_⟩
        · simp [World.setCell, World.drew, HS.out]
        · exact (HW.out.setCell (by simp) _).drew
        · rw [← partRow_set _ _ _ k hlt, ← HT.out]; exact heap_setCell_same _ _ _ _ _ _ HR.out
      case measure => simp [intOf]; omega
    · obtain rfl : k = n := by omega
      go_wp2_with fail
      have HYT : Hid (BytesAt wr.drew (some ⟨w.heap.size, 0, none⟩) ((List.range k).map (turn3 A B C))) := by
        refine BytesAt.drew (bytesAt_new wr _ _ 5 (0, 0) w.heap.size ?_ HR.out ?_)
        · intro c hc
          obtain ⟨j, _, rfl⟩ := List.mem_map.1 hc
          exact Nat.xor_lt_two_pow (n := 8) (Nat.xor_lt_two_pow (n := 8) (getD_mem_lt HA.out.1 j) (getD_mem_lt HB.out.1 j)) (getD_mem_lt HC.out.1 j)
        · intro i hi
          simp at hi
          rw [partRow_get _ _ _ _ _ hi, if_pos hi]
          simp [List.getD_eq_getElem?_getD, hi]
      have hT : Pl.more 0 ((List.range k).map (turn3 A B C)) = (Pl.more 0 (A.take k) ^^^ Pl.more 0 (B.take k)) ^^^ Pl.more 0 (C.take k) := more_turn3 A B C HA.out.1 HB.out.1 HC.out.1 k (by rw [KA.out]; omega) (by rw [KB.out]; omega) (by rw [KC.out]; omega)
      have sa := Pl.more_lt 0 (A.take k); have sb := Pl.more_lt 0 (B.take k); have sc := Pl.more_lt 0 (C.take k)
      have e1 := u32_xor_nat _ _ sa sb
      have e2 := u32_xor_nat _ _ (Pl.xor_lt32 sa sb) sc
      rw [← hT] at e2
      have LA : Hid ((A.take k).length = k) := by show (A.take k).length = k; rw [List.length_take, KA.out]; omega
      have LB : Hid ((B.take k).length = k) := by show (B.take k).length = k; rw [List.length_take, KB.out]; omega
      have LC : Hid ((C.take k).length = k) := by show (C.take k).length = k; rw [List.length_take, KC.out]; omega
      have i0 : (0 : Int) ≤ (k : Int) := by omega
      have i1 : (k : Int) ≤ (ca : Int) := by omega
      have i2 : (k : Int) ≤ (cb : Int) := by omega
      have i3 : (k : Int) ≤ (cc : Int) := by omega
      clear hT
      go_region_held3 (fun _ => True) (exact True.intro) (first
        | (go_at_call 9; (with_reducible refine (works_any w4).mono ?_); rintro e w5 ⟨rfl, hb5⟩; have HB5 : Hid (Below w.heap.size w w5) := HB4.out.trans (hb5.mono HB4.out.size); clear hb5)
        | (go_at_call 10; have _tok := HB3; (with_reducible refine (sum_any c k cc (C.take k) w3 LC.out (by omega) ((HC.out.below HB3.out).take k)).mono ?_); rintro e w4 ⟨rfl, hb4⟩; have HB4 : Hid (Below w.heap.size w w4) := HB3.out.trans (hb4.mono HB3.out.size); clear hb4)
        | (go_at_call 10; have _tok := HB2; (with_reducible refine (sum_any b k cb (B.take k) w2 LB.out (by omega) ((HB.out.below HB2.out).take k)).mono ?_); rintro e w3 ⟨rfl, hb3⟩; have HB3 : Hid (Below w.heap.size w w3) := HB2.out.trans (hb3.mono HB2.out.size); clear hb3)
        | (go_at_call 10; have _tok := HB1; (with_reducible refine (sum_any a k ca (A.take k) w1 LA.out (by omega) ((HA.out.below HB1.out).take k)).mono ?_); rintro e w2 ⟨rfl, hb2⟩; have HB2 : Hid (Below w.heap.size w w2) := HB1.out.trans (hb2.mono HB1.out.size); clear hb2)
        | (go_at_call 10; (with_reducible refine (sum_any (some ⟨w.heap.size, 0, none⟩) k k ((List.range k).map (turn3 A B C)) wr.drew (by simp) (by omega) HYT.out).mono ?_); rintro e w1 ⟨rfl, hb1⟩; have HB1 : Hid (Below w.heap.size w w1) := HW.out.drew.trans (hb1.mono (by show w.heap.size ≤ wr.heap.size; rw [HS.out]; omega)); clear hb1))
      go_wp2
      go_ret
      exact ⟨rfl, HB5.out⟩

theorem turns_walk (a : Option Addr) (la ca : Nat) (za : List Int) (b : Option Addr) (lb cb : Nat) (zb : List Int) (c : Option Addr) (lc cc : Nat) (zc : List Int) (w : World) (ra : IsRow .u8 w a la ca za) (rb : IsRow .u8 w b lb cb zb) (rc : IsRow .u8 w c lc cc zc) :
    Calls Try.prog 7 #[.slice a la ca, .slice b lb cb, .slice c lc cc] w fun e w' => e = .returned (.bool true) ∧ Below w.heap.size w w' := by
  obtain ⟨A, hA, ka, ma, ha⟩ := ra.bytes
  obtain ⟨B, hB, kb, mb, hb⟩ := rb.bytes
  obtain ⟨C, hC, kc, mc, hc⟩ := rc.bytes
  unfold maxLen at ma mb mc
  by_cases hs : min (min la lb) lc ≤ 100000
  · exact turns_in a b c la lb lc ca cb cc (min (min la lb) lc) A B C w ha hb hc hA hB hC ka kb kc ma mb mc (by omega) (by omega) (by omega) rfl hs
  · have hmin : ∀ w, (Builtin.min_ #[3, 3, 3] 3 #[.int .i64 (la : Int), .int .i64 (lb : Int), .int .i64 (lc : Int)]).run Try.prog w = .ok (.int .i64 ((min (min la lb) lc : Nat) : Int)) w := by
      intro w
      simp [Builtin.min_, Builtin.min2]
      have : (if (lc : Int) < if lb < la then (lb : Int) else (la : Int) then (lc : Int) else if lb < la then (lb : Int) else (la : Int)) = ((min (min la lb) lc : Nat) : Int) := by
        split <;> split at * <;> omega
      rw [this]; simp
    have hn : 100000 < min (min la lb) lc := by omega
    clear ra rb rc ha hb hc hA hB hC hs
    generalize min (min la lb) lc = n at *
    go_enter Try.func7, Try.ntmps7
    go_wp2_with fail
    refine (works_any _).mono ?_
    rintro e w1 ⟨rfl, hb1⟩
    go_wp2_with fail
    go_ret
    exact ⟨rfl, hb1⟩
end Go.Proofs.Ytlngddbadpcocaa
