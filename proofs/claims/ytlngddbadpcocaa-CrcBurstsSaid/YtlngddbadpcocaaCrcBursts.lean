/- The walk of CrcBursts: bytes that are otherwise at bits within 32 have another sum. -/
import Derived.Test.YtlngddbadpcocaaCrcLaws
import Derived.Test.YtlngddbadpcocaaCrcNum
import Derived.Deep.RegionHeld3
import Derived.BigRegion
namespace Go.Proofs.Ytlngddbadpcocaa
open Go.RowKit
set_option linter.unusedVariables false
theorem info5 : (Try.prog.info? 5).map (fun i => (i.zero, i.size, i.bytes)) = some (some (.int .u8 0), 1, 1) := by kernel_rfl

theorem cells_set {cur : Array Value} {m : List Nat} (h : ∀ i, i < m.length → cur[i]? = some (.int .u8 (m.getD i 0 : Nat))) (hs : m.length ≤ cur.size) (j v : Nat) :
    ∀ i, i < (m.set j v).length → (cur.setIfInBounds j (.int .u8 (v : Int)))[i]? = some (.int .u8 ((m.set j v).getD i 0 : Nat)) := by
  intro i hi
  rw [List.length_set] at hi
  rw [Array.getElem?_setIfInBounds]
  by_cases e : j = i
  · subst e
    rw [if_pos rfl, if_pos (by omega)]
    simp [List.getD_eq_getElem?_getD, hi]
  · rw [if_neg e, h i hi]
    simp [List.getD_eq_getElem?_getD, List.getElem?_set_ne e]
/-- Bytes as cells. -/
def cellsOf (l : List Nat) : List Value := l.map fun c : Nat => Value.int .u8 (c : Int)
theorem cellsOf_length (l : List Nat) : (cellsOf l).length = l.length := by simp [cellsOf]
theorem cellsOf_get (l : List Nat) (j : Nat) (h : j < l.length) : (cellsOf l)[j]? = some (.int .u8 (l.getD j 0 : Nat)) := by
  simp [cellsOf, List.getD_eq_getElem?_getD, List.getElem?_eq_getElem h]
theorem BytesAt.at' {w : World} {a : Option Addr} {l : List Nat} (h : BytesAt w a l) (hp : 0 < l.length) : ∃ b off, a = some ⟨b, off, none⟩ ∧ b < w.heap.size ∧ ∀ i, i < l.length → w.cell? ⟨b, off + i, none⟩ = some (.int .u8 (l.getD i 0 : Nat)) := by
  rcases h.2 with h0 | h0
  · rw [h0] at hp; simp at hp
  · exact h0
set_option maxHeartbeats 2000000 in
theorem bursts_in (p t : Nat) (b off : Nat) (len cap : Nat) (l : List Nat) (w : World) (hlen : l.length = len) (hcap : len ≤ cap) (hmax : cap ≤ 9223372036854775807) (hsm : len ≤ 100000) (hp : p + 32 ≤ 8 * len) (ht : t < 4294967296) (ht0 : 0 < t)
    (hby : BytesAt w (some ⟨b, off, none⟩) l) :
    Calls Try.prog 6 #[.slice (some ⟨b, off, none⟩) len cap, .int .i64 (p : Int), .int .u32 (t : Int)] w fun e w' => e = .returned (.bool true) ∧ Below w.heap.size w w' := by
  have HY := Lib.hid hby; have HE := Lib.hid hlen
  clear hby hlen
  have t1 : decide (100000 < (len : Int)) = false := by simp; omega
  have t2 : decide ((p : Int) < 0) = false := by simp
  have t3 : decide (8 * (len : Int) - 32 < (p : Int)) = false := by simp; omega
  have t4 : ((t : Int) == 0) = false := by simp; omega
  obtain ⟨i0, hi, hz0, hz1, hz2⟩ := info_parts info5
  go_enter Try.func6, Try.ntmps6
  have HO : Hid ((w.alloc (.cells #[] 5)).ownsRow w.heap.size 5 1 (.slice (some ⟨w.heap.size, 0, none⟩) 0 0) 0 []) :=
    ⟨rfl, .inr ⟨w.heap.size, 0, #[], rfl, Nat.le_refl _, heap_alloc_new _ _, Nat.le_refl _, by unfold maxLen; omega, rfl, rfl⟩⟩
  have HV : Hid ((cellsOf l).length = len * 1) := by show (cellsOf l).length = len * 1; rw [cellsOf_length, HE.out, Nat.mul_one]
  have HW : Hid (∀ j u, (cellsOf l)[j]? = some u → (w.alloc (.cells #[] 5)).cell? ((⟨b, off, none⟩ : Addr).add j) = some u) := by
    intro j u hu
    have hj : j < l.length := by
      rcases Nat.lt_or_ge j l.length with h | h
      · exact h
      · rw [List.getElem?_eq_none (by rw [cellsOf_length]; exact h)] at hu; cases hu
    obtain ⟨b', off', hs, hlt, hc⟩ := HY.out.at' (by omega)
    simp at hs
    obtain ⟨rfl, rfl⟩ := hs
    rw [Go.WideShapes.add_plain, World.cell?_alloc_lt _ _ _ hlt, hc j hj, ← cellsOf_get l j hj]
    exact hu
  have HX : Hid (∀ u ∈ (cellsOf l), u.oneCell' = true) := by
    intro u hu
    obtain ⟨c, _, rfl⟩ := List.mem_map.1 hu
    rfl
  go_wp2_with (at_builtin; refine wpList_append_own _ rfl _ _ 26 rfl w.heap.size 5 i0 (.int .u8 0) 1 1 Try.underlying26 hi hz0 hz1 hz2 rfl (by decide) _ _ _ rfl HO.out ⟨b, off, none⟩ len cap (cellsOf l) rfl HV.out HW.out HX.out ?c3 ?c4 ?c5 ?_)
  case c3 => unfold maxLen; omega
  case c4 => omega
  case c5 => simp
  intro v' w1 hown hgr _
  obtain ⟨hnl, hform⟩ := hown
  have hlen0 : 0 < len := by omega
  obtain ⟨g, cp, cur, rfl, hg, hcur, hcp, hcm, hcs, htk⟩ : ∃ g cp cur, v' = .slice (some ⟨g, 0, none⟩) len cp ∧ w.heap.size ≤ g ∧ w1.heap[g]? = some (.cells cur 5 (0, 0)) ∧ len ≤ cp ∧ cp ≤ maxLen ∧ cur.size = cp * 1 ∧ cur.toList.take (len * 1) = cellsOf l := by
    rcases hform with ⟨_, h0⟩ | h0
    · omega
    · exact h0
  have hbel : Below w.heap.size w w1 := ((Below.refl _ _).alloc (Nat.le_refl _) _).grown hgr (by simp) (by intro k hk; simp [Value.ownBlock] at hk; omega)
  have hin : ∀ i, i < l.length → cur[i]? = some (.int .u8 (l.getD i 0 : Nat)) := by
    intro i hi
    rw [← cellsOf_get l i hi, ← htk]
    rw [Nat.mul_one, List.getElem?_take, if_pos (by have := HE.out; omega)]
    simp
  have HC := Lib.hid hcur; have HB := Lib.hid hbel; have HI := Lib.hid hin; have HS := Lib.hid hcs
  unfold maxLen at hcm
  clear hcur hbel hin hcs htk hform hnl hgr HO HV HW HX hi hz0 hz1 hz2
  go_wp2_with fail
  clear t1 t2 t3 t4
  go_loopw [32] (fun i wr => ∃ k : Nat, k ≤ 32 ∧ i = .int .i64 k ∧ Below w.heap.size w wr ∧ ∃ cur : Array Value, ∃ m : List Nat, wr.heap[g]? = some (.cells cur 5 (0, 0)) ∧ cur.size = cp ∧ m.length = len ∧ (∀ c ∈ m, c < 256) ∧ (∀ i, i < m.length → cur[i]? = some (.int .u8 (m.getD i 0 : Nat))) ∧ Pl.num m = Pl.num l ^^^ (2 ^ p * (t % 2 ^ k))) (fun i _ => 32 - (intOf i).toNat)
  case atStart => exact ⟨0, Nat.zero_le _, rfl, HB.out, cur, l, HC.out, by rw [HS.out, Nat.mul_one], HE.out, HY.out.1, HI.out, by simp [Nat.mod_one]⟩
  case round =>
    obtain ⟨k, hk, rfl, hB, cur', m, hC, hS, hM, hm, hI, hN⟩ := hrel
    have HB' := Lib.hid hB; have HC' := Lib.hid hC; have HS' := Lib.hid hS; have HM := Lib.hid hM; have HI' := Lib.hid hI; have HN := Lib.hid hN; have Hm := Lib.hid hm
    clear hB hC hS hM hI hN hm HC HB HI HS cur
    by_cases hlt : k < 32
    · have hand : bits .and .u32 ((t : Int) / 2 ^ k) 1 = ((t / 2 ^ k % 2 : Nat) : Int) := by
        have h1 : t / 2 ^ k < 4294967296 := Nat.lt_of_le_of_lt (Nat.div_le_self _ _) ht
        have h2 := u32_and_nat (t / 2 ^ k) 1 h1 (by omega)
        rw [nat_mask1] at h2
        rw [← h2]; simp
      rcases Nat.mod_two_eq_zero_or_one (t / 2 ^ k) with hb | hb
      · have hbit : (bits .and .u32 ((t : Int) / 2 ^ k) 1 == 1) = false := by rw [hand, hb]; rfl
        have HN2 : Hid (Pl.num m = Pl.num l ^^^ (2 ^ p * (t % 2 ^ (k + 1)))) := Pl.num_still l m p t k hb HN.out
        clear hand hb
        go_wp2_with fail
        go_roundw
        case rel => exact ⟨k + 1, by omega, by go_num, HB'.out, cur', m, HC'.out, HS'.out, HM.out, Hm.out, HI'.out, HN2.out⟩
        case measure => simp [intOf]; omega
      · have hbit : (bits .and .u32 ((t : Int) / 2 ^ k) 1 == 1) = true := by rw [hand, hb]; rfl
        have HB1 := Lib.hid hb
        clear hand hb
        have hj : (p + k) / 8 < len := by omega
        have hcell : wr.cell? ⟨g, (p + k) / 8, none⟩ = some (.int .u8 (m.getD ((p + k) / 8) 0 : Nat)) := cell_row HC'.out (HI'.out _ (by rw [HM.out]; exact hj))
        have hfz : wr.frozen? ⟨g, (p + k) / 8, none⟩ = false := frozen_of_row _ _ _ _ _ HC'.out
        have hc := getD_mem_lt Hm.out ((p + k) / 8)
        have HN2 : Hid (Pl.num (m.set ((p + k) / 8) (m.getD ((p + k) / 8) 0 ^^^ 2 ^ ((p + k) % 8))) = Pl.num l ^^^ (2 ^ p * (t % 2 ^ (k + 1)))) := Pl.num_round l m p t k HB1.out HN.out (by rw [HM.out]; exact hj)
        have hw : 2 ^ ((p + k) % 8) < 256 := Nat.pow_lt_pow_right (a := 2) (by omega) (show (p + k) % 8 < 8 by omega)
        have HX : Hid (bits .xor .u8 (m.getD ((p + k) / 8) 0 : Nat) (2 ^ ((p + k) % 8) % 256) = ((m.getD ((p + k) / 8) 0 ^^^ 2 ^ ((p + k) % 8) : Nat) : Int)) := by
          show bits .xor .u8 (m.getD ((p + k) / 8) 0 : Nat) (2 ^ ((p + k) % 8) % 256) = ((m.getD ((p + k) / 8) 0 ^^^ 2 ^ ((p + k) % 8) : Nat) : Int)
          rw [← u8_xor_nat _ _ hc hw]
          have e : (2 ^ ((p + k) % 8) % 256 : Int) = ((2 ^ ((p + k) % 8) : Nat) : Int) := by
            have e1 : ∀ x : Nat, x < 256 → ((x : Nat) : Int) % 256 = (x : Int) := fun x hx => by omega
            have e2 := e1 _ hw
            rw [Int.natCast_pow] at e2 ⊢
            exact e2
          rw [e]
        have HY2 : Hid (m.getD ((p + k) / 8) 0 ^^^ 2 ^ ((p + k) % 8) < 256) := Nat.xor_lt_two_pow (n := 8) hc hw
        obtain ⟨c, hcd⟩ : ∃ c, c = m.getD ((p + k) / 8) 0 := ⟨_, rfl⟩
        rw [← hcd] at hcell hc HN2 HX HY2
        clear hcd hw
        go_wp2_with fail
        go_region
        rw [HX.out]
        go_wp2_with fail
        go_roundw
        case rel =>
          refine ⟨k + 1, by omega, by go_num, (HB'.out.setCell (p := ⟨g, _, none⟩) hg _).drew, _, _, heap_setCell_same _ _ _ _ _ _ HC'.out, ?_, ?_, ?_, ?_, HN2.out⟩
          · rw [Array.size_setIfInBounds, HS'.out]
          · rw [List.length_set, HM.out]
          · intro x hx
            rcases List.mem_or_eq_of_mem_set hx with h | h
            · exact Hm.out x h
            · rw [h]; exact HY2.out
          · exact cells_set HI'.out (by rw [HS'.out, HM.out]; exact hcp) _ _
        case measure => simp [intOf]; omega
    · obtain rfl : k = 32 := by omega
      have HNE : Hid (Pl.more 0 m ≠ Pl.more 0 l) := Pl.bursts l m HY.out.1 Hm.out (by rw [HM.out, HE.out]) p t ht (by omega) (by rw [HE.out]; omega) (by rw [HN.out, Nat.mod_eq_of_lt ht])
      have hne : ((Pl.more 0 m : Int) != (Pl.more 0 l : Int)) = true := by
        have := HNE.out; simp; omega
      have hne2 : (Pl.more 0 m != Pl.more 0 l) = true := by
        have := HNE.out; simp; omega
      have HYM : Hid (BytesAt wr (some ⟨g, 0, none⟩) m) := bytesAt_new wr m cur' 5 (0, 0) g Hm.out HC'.out HI'.out
      go_wp2_with fail
      refine (sum_any (some ⟨g, 0, none⟩) len cp m _ HM.out (by omega) HYM.out).mono ?_
      rintro e w2 ⟨rfl, hb2⟩
      have HB2 : Hid (Below w.heap.size w w2) := HB'.out.trans (hb2.mono HB'.out.size)
      clear hb2
      go_wp2_with fail
      refine (sum_any (some ⟨b, off, none⟩) len cap l _ HE.out (by omega) (HY.out.below HB2.out)).mono ?_
      rintro e w3 ⟨rfl, hb3⟩
      have HB3 : Hid (Below w.heap.size w w3) := HB2.out.trans (hb3.mono HB2.out.size)
      clear hb3
      go_wp2_with fail
      refine (works_any _).mono ?_
      rintro e w4 ⟨rfl, hb4⟩
      have HB4 : Hid (Below w.heap.size w w4) := HB3.out.trans (hb4.mono HB3.out.size)
      clear hb4
      go_wp2_with fail
      go_ret
      exact ⟨rfl, HB4.out⟩

set_option maxHeartbeats 1000000 in
theorem bursts_out (a : Option Addr) (len cap : Nat) (p t : Int) (w : World) (h1 : -9223372036854775808 ≤ p) (h2 : p ≤ 9223372036854775807) (hm : len ≤ 9223372036854775807) (h : 100000 < len ∨ p < 0 ∨ 8 * (len : Int) - 32 < p ∨ t = 0) :
    Calls Try.prog 6 #[.slice a len cap, .int .i64 p, .int .u32 t] w fun e w' => e = .returned (.bool true) ∧ Below w.heap.size w w' := by
  by_cases q1 : 100000 < (len : Int)
  · have t1 : decide (100000 < (len : Int)) = true := by simp; omega
    clear h
    go_enter Try.func6, Try.ntmps6
    go_wp2_with (go_at_call 9; (with_reducible refine (works_any _).mono ?_); rintro e w4 ⟨rfl, hb4⟩; have HB4 := Lib.hid hb4; clear hb4)
    go_ret
    exact ⟨rfl, HB4.out⟩
  · have t1 : decide (100000 < (len : Int)) = false := by simp; omega
    by_cases q2 : p < 0
    · have t2 : decide (p < 0) = true := by simp; omega
      clear h
      go_enter Try.func6, Try.ntmps6
      go_wp2_with (go_at_call 9; (with_reducible refine (works_any _).mono ?_); rintro e w4 ⟨rfl, hb4⟩; have HB4 := Lib.hid hb4; clear hb4)
      go_ret
      exact ⟨rfl, HB4.out⟩
    · have t2 : decide (p < 0) = false := by simp; omega
      by_cases q3 : 8 * (len : Int) - 32 < p
      · have t3 : decide (8 * (len : Int) - 32 < p) = true := by simp; omega
        clear h
        go_enter Try.func6, Try.ntmps6
        go_wp2_with (go_at_call 9; (with_reducible refine (works_any _).mono ?_); rintro e w4 ⟨rfl, hb4⟩; have HB4 := Lib.hid hb4; clear hb4)
        go_ret
        exact ⟨rfl, HB4.out⟩
      · have t3 : decide (8 * (len : Int) - 32 < p) = false := by simp; omega
        obtain rfl : t = 0 := by omega
        clear h
        go_enter Try.func6, Try.ntmps6
        go_wp2_with (go_at_call 9; (with_reducible refine (works_any _).mono ?_); rintro e w4 ⟨rfl, hb4⟩; have HB4 := Lib.hid hb4; clear hb4)
        go_ret
        exact ⟨rfl, HB4.out⟩

theorem bursts_walk (a : Option Addr) (len cap : Nat) (zs : List Int) (p t : Int) (w : World) (hr : IsRow .u8 w a len cap zs) (wp : (Lit.int .i64 p).wf = true) (wt : (Lit.int .u32 t).wf = true) :
    Calls Try.prog 6 #[.slice a len cap, .int .i64 p, .int .u32 t] w fun e w' => e = .returned (.bool true) ∧ Below w.heap.size w w' := by
  obtain ⟨hp0, hp1⟩ := bounds_i64 wp
  obtain ⟨ht0, ht1⟩ := bounds_u32 wt
  obtain ⟨l, hlen, hcap, hmax, hby⟩ := hr.bytes
  unfold maxLen at hmax
  by_cases h : 100000 < len ∨ p < 0 ∨ 8 * (len : Int) - 32 < p ∨ t = 0
  · exact bursts_out a len cap p t w hp0 hp1 (by omega) h
  · obtain ⟨p, rfl⟩ := Int.eq_ofNat_of_zero_le (show 0 ≤ p by omega)
    obtain ⟨t, rfl⟩ := Int.eq_ofNat_of_zero_le ht0
    obtain ⟨b, off, rfl, -, -⟩ := hby.at' (by omega)
    exact bursts_in p t b off len cap l w hlen hcap hmax (by omega) (by omega) (by omega) (by omega) hby
end Go.Proofs.Ytlngddbadpcocaa
