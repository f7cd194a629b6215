/- The walk of CrcParts: bytes that are parted anywhere are summed one part behind the other. -/
import Derived.Test.YtlngddbadpcocaaCrcLaws
import Derived.Deep.RegionWith
namespace Go.Proofs.Ytlngddbadpcocaa
open Go.RowKit
set_option linter.unusedVariables false
theorem BytesAt.take {w : World} {a : Option Addr} {l : List Nat} (h : BytesAt w a l) (k : Nat) : BytesAt w a (l.take k) := by
  obtain ⟨h1, h2⟩ := h
  refine ⟨take_mem h1 k, ?_⟩
  rcases h2 with rfl | ⟨b, off, rfl, hlt, hc⟩
  · left; simp
  · right
    refine ⟨b, off, rfl, hlt, fun i hi => ?_⟩
    simp at hi
    rw [hc i (by omega)]
    have : i < k := by omega
    simp [List.getD_eq_getElem?_getD, this]
theorem BytesAt.drop {w : World} {b off : Nat} {l : List Nat} (h : BytesAt w (some ⟨b, off, none⟩) l) (k : Nat) : BytesAt w (some ⟨b, off + k, none⟩) (l.drop k) := by
  obtain ⟨h1, h2⟩ := h
  refine ⟨fun c hc => h1 c (List.mem_of_mem_drop hc), ?_⟩
  rcases h2 with rfl | ⟨b', off', he, hlt, hc⟩
  · left; simp
  · right
    simp at he
    obtain ⟨rfl, rfl⟩ := he
    refine ⟨b, off + k, rfl, hlt, fun i hi => ?_⟩
    simp at hi
    have := hc (k + i) (by omega)
    rw [Nat.add_assoc, this]
    simp [List.getD_eq_getElem?_getD]
theorem BytesAt.drop_all {w : World} {a : Option Addr} {l : List Nat} (h : BytesAt w a l) (k : Nat) (hk : l.length ≤ k) : BytesAt w a (l.drop k) := by
  rw [List.drop_eq_nil_of_le hk]; exact ⟨by simp, .inl rfl⟩

set_option maxHeartbeats 2000000 in
theorem parts_in (c b off len cap : Nat) (l : List Nat) (w : World) (hc : c ≤ len) (hlen : l.length = len) (hcap : len ≤ cap) (hmax : cap ≤ 9223372036854775807) (hsm : len ≤ 100000) (hcc : c < cap) (hby : BytesAt w (some ⟨b, off, none⟩) l) :
    Calls Try.prog 5 #[.slice (some ⟨b, off, none⟩) len cap, .int .i64 (c : Int)] w fun e w' => e = .returned (.bool true) ∧ Below w.heap.size w w' := by
  have HY := Lib.hid hby; have HE : Hid (l.length = len) := hlen
  clear hby hlen
  have t1 : decide (100000 < (len : Int)) = false := by simp; omega
  have t2 : decide ((c : Int) < 0) = false := by simp
  have t3 : decide (len < c) = false := by simp; omega
  have HTL : Hid ((l.take c).length = c) := by show (l.take c).length = c; rw [List.length_take, HE.out]; omega
  have HDL : Hid ((l.drop c).length = (len - c)) := by show (l.drop c).length = (len - c); rw [List.length_drop, HE.out]
  have HMM : Hid (Pl.more (Pl.more 0 (l.take c)) (l.drop c) = Pl.more 0 l) := by
    show Pl.more (Pl.more 0 (l.take c)) (l.drop c) = Pl.more 0 l
    rw [Pl.more_more _ _ _ (by omega) (take_mem HY.out.1 _), List.take_append_drop]
  have hml := Pl.more_lt 0 (l.take c)
  have HYD : Hid (BytesAt w.drew (some ⟨b, off, none⟩) l) := HY.out.below (Below.refl _ _).drew
  have HBD : Hid (Below w.heap.size w w.drew) := (Below.refl _ _).drew
  go_enter Try.func5, Try.ntmps5
  go_wp2_with fail
  go_region_with (first
    | (go_at_call 9; (with_reducible refine (works_any _).mono ?_); rintro e w4 ⟨rfl, hb4⟩; have HB4 := Lib.hid hb4; clear hb4)
    | (go_at_call_of 10 (Value.slice (some ⟨b, off, none⟩) len cap); (with_reducible refine (sum_any (some ⟨b, off, none⟩) len cap l w2 HE.out (by omega) HY2.out).mono ?_); rintro e w3 ⟨rfl, hb3⟩; have HB3 : Hid (Below w.heap.size w w3) := HB2.out.trans (hb3.mono HB2.out.size); clear hb3)
    | (go_at_call 10; (with_reducible refine (sum_any (some ⟨b, off, none⟩) c cap (l.take c) w.drew HTL.out (by omega) (HYD.out.take c)).mono ?_); rintro e w1 ⟨rfl, hb1⟩; have HB1 : Hid (Below w.heap.size w w1) := HBD.out.trans hb1; clear hb1; have HY1 := Lib.hid (HY.out.below HB1.out))
    | (go_at_call 11; (with_reducible refine (more_any (Pl.more 0 (l.take c)) (some ⟨b, off + c, none⟩) (len - c) (cap - c) (l.drop c) w1 hml HDL.out (by omega) (HY1.out.drop c)).mono ?_); rintro e w2 ⟨rfl, hb2⟩; rw [HMM.out]; have HB2 : Hid (Below w.heap.size w w2) := HB1.out.trans (hb2.mono HB1.out.size); clear hb2; have HY2 := Lib.hid (HY.out.below HB2.out)))
  go_wp2
  go_ret
  exact ⟨rfl, HB3.out.trans (HB4.out.mono HB3.out.size)⟩
set_option maxHeartbeats 2000000 in
theorem parts_end (c : Nat) (x : Addr) (l : List Nat) (w : World) (hlen : l.length = c) (hsm : c ≤ 100000) (hby : BytesAt w (some x) l) :
    Calls Try.prog 5 #[.slice (some x) c c, .int .i64 (c : Int)] w fun e w' => e = .returned (.bool true) ∧ Below w.heap.size w w' := by
  have HY := Lib.hid hby; have HE : Hid (l.length = c) := hlen
  clear hby hlen
  have t1 : decide (100000 < (c : Int)) = false := by simp; omega
  have t2 : decide ((c : Int) < 0) = false := by simp
  have t3 : decide (c < c) = false := by simp
  have HTL : Hid ((l.take c).length = c) := by show (l.take c).length = c; rw [List.length_take, HE.out]; omega
  have HDL : Hid ((l.drop c).length = 0) := by show (l.drop c).length = 0; rw [List.length_drop, HE.out]; omega
  have HMM : Hid (Pl.more (Pl.more 0 (l.take c)) (l.drop c) = Pl.more 0 l) := by
    show Pl.more (Pl.more 0 (l.take c)) (l.drop c) = Pl.more 0 l
    rw [Pl.more_more _ _ _ (by omega) (take_mem HY.out.1 _), List.take_append_drop]
  have hml := Pl.more_lt 0 (l.take c)
  have HYD : Hid (BytesAt w.drew (some x) l) := HY.out.below (Below.refl _ _).drew
  have HBD : Hid (Below w.heap.size w w.drew) := (Below.refl _ _).drew
  go_enter Try.func5, Try.ntmps5
  go_wp2_with fail
  go_region_with (first
    | (go_at_call 9; (with_reducible refine (works_any _).mono ?_); rintro e w4 ⟨rfl, hb4⟩; have HB4 := Lib.hid hb4; clear hb4)
    | (go_at_call 10; have _tok := HY2; (with_reducible refine (sum_any (some x) c c l w2 HE.out (by omega) HY2.out).mono ?_); rintro e w3 ⟨rfl, hb3⟩; have HB3 : Hid (Below w.heap.size w w3) := HB2.out.trans (hb3.mono HB2.out.size); clear hb3)
    | (go_at_call 10; (with_reducible refine (sum_any (some x) c c (l.take c) w.drew HTL.out (by omega) (HYD.out.take c)).mono ?_); rintro e w1 ⟨rfl, hb1⟩; have HB1 : Hid (Below w.heap.size w w1) := HBD.out.trans hb1; clear hb1; have HY1 := Lib.hid (HY.out.below HB1.out))
    | (go_at_call 11; (with_reducible refine (more_any (Pl.more 0 (l.take c)) (some x) 0 0 (l.drop c) w1 hml HDL.out (by omega) (HY1.out.drop_all c (by rw [HE.out]; omega))).mono ?_); rintro e w2 ⟨rfl, hb2⟩; rw [HMM.out]; have HB2 : Hid (Below w.heap.size w w2) := HB1.out.trans (hb2.mono HB1.out.size); clear hb2; have HY2 := Lib.hid (HY.out.below HB2.out)))
  go_wp2
  go_ret
  exact ⟨rfl, HB3.out.trans (HB4.out.mono HB3.out.size)⟩

theorem sumNil0 (w : World) : Calls Try.prog 11 #[.int .u32 0, .slice none 0 0] w fun e w' => e = .returned (.int .u32 0) ∧ Below w.heap.size w w' := more_any 0 none 0 0 [] w (by omega) rfl (by omega) (bytesAt_nil w)
set_option maxHeartbeats 2000000 in
theorem parts_nil (w : World) :
    Calls Try.prog 5 #[.slice none 0 0, .int .i64 0] w fun e w' => e = .returned (.bool true) ∧ Below w.heap.size w w' := by
  have HBD : Hid (Below w.heap.size w w.drew) := (Below.refl _ _).drew
  go_enter Try.func5, Try.ntmps5
  go_wp2_with fail
  go_region_with (first
    | (go_at_call 9; (with_reducible refine (works_any _).mono ?_); rintro e w4 ⟨rfl, hb4⟩; have HB4 := Lib.hid hb4; clear hb4)
    | (go_at_call 10; have _tok := HB2; (with_reducible refine (sumNil w2).mono ?_); rintro e w3 ⟨rfl, hb3⟩; have HB3 : Hid (Below w.heap.size w w3) := HB2.out.trans (hb3.mono HB2.out.size); clear hb3)
    | (go_at_call 10; (with_reducible refine (sumNil w.drew).mono ?_); rintro e w1 ⟨rfl, hb1⟩; have HB1 : Hid (Below w.heap.size w w1) := HBD.out.trans hb1; clear hb1)
    | (go_at_call 11; (with_reducible refine (sumNil0 w1).mono ?_); rintro e w2 ⟨rfl, hb2⟩; have HB2 : Hid (Below w.heap.size w w2) := HB1.out.trans (hb2.mono HB1.out.size); clear hb2))
  go_wp2
  go_ret
  exact ⟨rfl, HB3.out.trans (HB4.out.mono HB3.out.size)⟩

set_option maxHeartbeats 1000000 in
theorem parts_out (a : Option Addr) (len cap : Nat) (c : Int) (w : World) (h1 : -9223372036854775808 ≤ c) (h2 : c ≤ 9223372036854775807) (hm : len ≤ 9223372036854775807) (h : 100000 < len ∨ c < 0 ∨ (len : Int) < c) :
    Calls Try.prog 5 #[.slice a len cap, .int .i64 c] w fun e w' => e = .returned (.bool true) ∧ Below w.heap.size w w' := by
  by_cases q1 : 100000 < (len : Int)
  · have t1 : decide (100000 < (len : Int)) = true := by simp; omega
    clear h
    go_enter Try.func5, Try.ntmps5
    go_wp2_with (go_at_call 9; (with_reducible refine (works_any _).mono ?_); rintro e w4 ⟨rfl, hb4⟩; have HB4 := Lib.hid hb4; clear hb4)
    go_ret
    exact ⟨rfl, HB4.out⟩
  · have t1 : decide (100000 < (len : Int)) = false := by simp; omega
    by_cases q2 : c < 0
    · have t2 : decide (c < 0) = true := by simp; omega
      clear h
      go_enter Try.func5, Try.ntmps5
      go_wp2_with (go_at_call 9; (with_reducible refine (works_any _).mono ?_); rintro e w4 ⟨rfl, hb4⟩; have HB4 := Lib.hid hb4; clear hb4)
      go_ret
      exact ⟨rfl, HB4.out⟩
    · have t2 : decide (c < 0) = false := by simp; omega
      have t3 : decide ((len : Int) < c) = true := by simp; omega
      clear h
      go_enter Try.func5, Try.ntmps5
      go_wp2_with (go_at_call 9; (with_reducible refine (works_any _).mono ?_); rintro e w4 ⟨rfl, hb4⟩; have HB4 := Lib.hid hb4; clear hb4)
      go_ret
      exact ⟨rfl, HB4.out⟩

theorem parts_walk (a : Option Addr) (len cap : Nat) (zs : List Int) (c : Int) (w : World) (hr : IsRow .u8 w a len cap zs) (ws : (Lit.int .i64 c).wf = true) :
    Calls Try.prog 5 #[.slice a len cap, .int .i64 c] w fun e w' => e = .returned (.bool true) ∧ Below w.heap.size w w' := by
  obtain ⟨hs0, hs1⟩ := bounds_i64 ws
  obtain ⟨l, hlen, hcap, hmax, hby⟩ := hr.bytes
  unfold maxLen at hmax
  by_cases h : 100000 < len ∨ c < 0 ∨ (len : Int) < c
  · exact parts_out a len cap c w hs0 hs1 (by omega) h
  · obtain ⟨c, rfl⟩ := Int.eq_ofNat_of_zero_le (show 0 ≤ c by omega)
    rcases hr with ⟨rfl, rfl, rfl, rfl⟩ | ⟨x, rfl, hl, hm, hz, hc, hw⟩
    · obtain rfl : c = 0 := by omega
      exact parts_nil w
    · by_cases hce : c < cap
      · obtain ⟨b, off, rfl, hcc⟩ := ints_at hc (by omega)
        exact parts_in c b off len cap l w (by omega) hlen hcap hmax (by omega) hce hby
      · obtain rfl : c = cap := by omega
        obtain rfl : len = c := by omega
        exact parts_end len x l w hlen (by omega) hby
end Go.Proofs.Ytlngddbadpcocaa
