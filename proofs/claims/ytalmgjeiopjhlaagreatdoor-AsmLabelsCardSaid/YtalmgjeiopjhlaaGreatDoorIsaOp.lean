/- Op, and the document's; the walk of IsaNames. -/
import Derived.Test.YtalmgjeiopjhlaaGreatDoorIsaKnA
namespace Go.Proofs.YtalmgjeiopjhlaaGreatDoor
open Go.RowKit
set_option linter.unusedVariables false
def first (p : Nat → Bool) (n : Nat) : Option Nat := (List.range n).find? p
theorem first_some {p : Nat → Bool} {n k : Nat} (hk : k < n) (hp : p k = true) (h : ∀ j, j < k → p j = false) : first p n = some k := by
  unfold first
  rw [List.find?_eq_some_iff_append]
  refine ⟨hp, (List.range n).take k, (List.range n).drop (k + 1), ?_, fun a ha => ?_⟩
  · apply List.ext_getElem?
    intro i
    by_cases h1 : i < k
    · rw [List.getElem?_append_left (by simp; omega), List.getElem?_take, if_pos h1]
    · rw [List.getElem?_append_right (by simp; omega)]
      have hl : ((List.range n).take k).length = k := by simp; omega
      rw [hl]
      by_cases h2 : i = k
      · subst h2; simp [hk]
      · obtain ⟨d, hd⟩ : ∃ d, i - k = d + 1 := ⟨i - k - 1, by omega⟩
        rw [hd, List.getElem?_cons_succ, List.getElem?_drop, show k + 1 + d = i by omega]
  · obtain ⟨i, hi⟩ := List.mem_iff_getElem?.1 ha
    rw [List.getElem?_take] at hi
    by_cases e : i < k
    · rw [if_pos e] at hi
      have : i = a := by
        have hin : i < n := by omega
        simpa [hin] using hi
      subst this
      simp [h i e]
    · rw [if_neg e] at hi; cases hi
theorem first_none {p : Nat → Bool} {n : Nat} (h : ∀ j, j < n → p j = false) : first p n = none := by
  unfold first
  rw [List.find?_eq_none]
  intro x hx
  have : x < n := by simpa using hx
  simp [h x this]
def opHit (s : ByteArray) (k : Nat) : Bool := decide (0 < k) && ((nameS k).toList == s.toList)
def opOf (s : ByteArray) : Nat := (first (opHit s) 28).getD 0
theorem opOf_at {s : ByteArray} {k : Nat} (hk : k < 28) (hp : opHit s k = true) (h : ∀ j, j < k → opHit s j = false) : opOf s = k := by unfold opOf; rw [first_some hk hp h]; rfl
theorem opOf_no {s : ByteArray} (h : ∀ j, j < 28 → opHit s j = false) : opOf s = 0 := by unfold opOf; rw [first_none h]; rfl
set_option maxHeartbeats 4000000 in
set_option maxRecDepth 100000 in
theorem op_any (s : ByteArray) (w : World) : Calls Tryz.prog 87 #[.string s] w fun e w' => e = .returned (.int .u8 ((opOf s : Nat) : Int)) ∧ Below w.heap.size w w' := by
  go_enter Tryz.func87, Tryz.ntmps87
  go_wp2_with fail
  refine (rows_any w).mono ?_
  rintro e w1 ⟨rfl, hb⟩
  have B1 := Lib.hid hb
  clear hb
  go_wp2_with fail
  go_loopw [6] (fun i wr => ∃ k : Nat, k ≤ 28 ∧ i = .int .i64 (k : Int) ∧ (∀ j, j < k → opHit s j = false) ∧ Below w.heap.size w wr) (fun i _ => 28 - (intOf i).toNat)
  case atStart => exact ⟨0, by omega, rfl, fun j hj => absurd hj (by omega), B1.out⟩
  case round =>
    obtain ⟨k, hk, rfl, r1, r2⟩ := hrel
    have HJ := Lib.hid r1; have BK := Lib.hid r2
    clear r1 r2
    by_cases hlt : k < 28
    · have hi := index54i k hlt
      have hki : (k : Int) < 28 := by omega
      unfold RowI.arr at hi
      have HN : Hid (nameS k = ⟨(rowAt k).name.toArray⟩) := rfl
      rw [← HN.out] at hi
      have HB : Hid (∀ o, Below w.heap.size w (wr.alloc o)) := fun o => BK.out.alloc BK.out.size o
      cases hh : opHit s k
      case true =>
        have HO := Lib.hid (opOf_at hlt hh HJ.out)
        unfold opHit at hh
        rw [Bool.and_eq_true, decide_eq_true_eq] at hh
        have t1' : 0 < k := hh.1
        have t1 : decide ((0 : Int) < (k : Int)) = true := by simp; omega
        have t2 : ((nameS k).toList == s.toList) = true := hh.2
        clear hh HN
        generalize nameS k = nm at *
        generalize (rowAt k).nm = q1 at *
        generalize (rowAt k).most = q2 at *
        generalize (rowAt k).takes = q3 at *
        generalize (rowAt k).gives = q4 at *
        go_wp2_with fail
        go_ret
        exact ⟨by rw [HO.out]; first | done | rfl, HB.out _⟩
      case false =>
        have HS : Hid (∀ j, j < k + 1 → opHit s j = false) := fun j hj => by
          rcases Nat.lt_or_ge j k with h | h
          · exact HJ.out j h
          · obtain rfl : j = k := by omega
            exact hh
        unfold opHit at hh
        by_cases h0 : 0 < k
        · have t1 : decide ((0 : Int) < (k : Int)) = true := by simp; omega
          have t2 : ((nameS k).toList == s.toList) = false := by simpa [h0] using hh
          clear hh HN
          generalize nameS k = nm at *
          generalize (rowAt k).nm = q1 at *
          generalize (rowAt k).most = q2 at *
          generalize (rowAt k).takes = q3 at *
          generalize (rowAt k).gives = q4 at *
          go_wp2_with fail
          go_roundw
          case rel => exact ⟨k + 1, by omega, by go_num, HS.out, HB.out _⟩
          case measure => simp [intOf]; omega
        · have t1 : decide ((0 : Int) < (k : Int)) = false := by simp; omega
          clear hh HN
          generalize nameS k = nm at *
          generalize (rowAt k).nm = q1 at *
          generalize (rowAt k).most = q2 at *
          generalize (rowAt k).takes = q3 at *
          generalize (rowAt k).gives = q4 at *
          go_wp2_with fail
          go_roundw
          case rel => exact ⟨k + 1, by omega, by go_num, HS.out, HB.out _⟩
          case measure => simp [intOf]; omega
    · obtain rfl : k = 28 := by omega
      have HO := Lib.hid (opOf_no HJ.out)
      go_wp2_with fail
      go_ret
      exact ⟨by rw [HO.out]; rfl, BK.out⟩
def namesArr : Array Value := #[.string { data := #[] }, .string { data := #[112, 117, 115, 104] }, .string { data := #[100, 117, 112] }, .string { data := #[100, 114, 111, 112] }, .string { data := #[115, 119, 97, 112] }, .string { data := #[97, 100, 100] }, .string { data := #[115, 117, 98] }, .string { data := #[109, 117, 108] }, .string { data := #[100, 105, 118] }, .string { data := #[109, 111, 100] }, .string { data := #[97, 110, 100] }, .string { data := #[111, 114] }, .string { data := #[120, 111, 114] }, .string { data := #[115, 104, 108] }, .string { data := #[115, 104, 114] }, .string { data := #[101, 113] }, .string { data := #[108, 101, 115, 115] }, .string { data := #[108, 111, 97, 100] }, .string { data := #[115, 116, 111, 114, 101] }, .string { data := #[106, 117, 109, 112] }, .string { data := #[122, 101, 114, 111] }, .string { data := #[105, 110] }, .string { data := #[111, 117, 116] }, .string { data := #[114, 101, 97, 100] }, .string { data := #[97, 103, 101] }, .string { data := #[112, 117, 116] }, .string { data := #[115, 101, 110, 100] }, .string { data := #[121, 105, 101, 108, 100] }]
theorem names_at (k : Nat) (h : k < 28) : namesArr[k]? = some (.string (nameS k)) := by
  match k, h with
  | 0, _ => rfl
  | 1, _ => rfl
  | 2, _ => rfl
  | 3, _ => rfl
  | 4, _ => rfl
  | 5, _ => rfl
  | 6, _ => rfl
  | 7, _ => rfl
  | 8, _ => rfl
  | 9, _ => rfl
  | 10, _ => rfl
  | 11, _ => rfl
  | 12, _ => rfl
  | 13, _ => rfl
  | 14, _ => rfl
  | 15, _ => rfl
  | 16, _ => rfl
  | 17, _ => rfl
  | 18, _ => rfl
  | 19, _ => rfl
  | 20, _ => rfl
  | 21, _ => rfl
  | 22, _ => rfl
  | 23, _ => rfl
  | 24, _ => rfl
  | 25, _ => rfl
  | 26, _ => rfl
  | 27, _ => rfl
  | n + 28, h => exact absurd h (by omega)
set_option maxRecDepth 100000 in
theorem names_any (w : World) : Calls Tryz.prog 55 #[] w fun e w' => (∃ g, e = .returned (.slice (some ⟨g, 0, none⟩) 28 28) ∧ w'.heap[g]? = some (.cells namesArr 9 (0, 0))) ∧ Below w.heap.size w w' := by
  go_enter Tryz.func55, Tryz.ntmps55
  go_wp2_with fail
  go_ret
  exact ⟨⟨_, rfl, heap_alloc_new _ _⟩, alloc_below _ _⟩
set_option maxHeartbeats 4000000 in
set_option maxRecDepth 100000 in
theorem rop_any (s : ByteArray) (w : World) : Calls Tryz.prog 89 #[.string s] w fun e w' => e = .returned (.int .u8 ((opOf s : Nat) : Int)) ∧ Below w.heap.size w w' := by
  go_enter Tryz.func89, Tryz.ntmps89
  go_wp2_with fail
  refine (names_any w).mono ?_
  rintro e w1 ⟨⟨g, rfl, hg⟩, hb⟩
  have B1 := Lib.hid hb
  have G1 := Lib.hid hg
  have HZ : Hid (opHit s 0 = false) := by show _ = _; unfold opHit; simp
  clear hb hg
  go_wp2_with fail
  go_loop [4] (fun i => ∃ k : Nat, 1 ≤ k ∧ k ≤ 28 ∧ i = .int .i64 (k : Int) ∧ (∀ j, j < k → opHit s j = false)) (fun i => 28 - (intOf i).toNat)
  case atStart => exact ⟨1, by omega, by omega, rfl, fun j hj => by have e : j = 0 := (by omega); rw [e]; exact HZ.out⟩
  case round =>
    obtain ⟨k, h1, hk, rfl, r1⟩ := hrel
    have HJ := Lib.hid r1
    clear r1
    by_cases hlt : k < 28
    · have hki : (k : Int) < 28 := by omega
      have hc : w1.cell? ⟨g, k, none⟩ = some (.string (nameS k)) := cell_row G1.out (names_at k hlt)
      have hgl := heap_lt G1.out
      cases hh : opHit s k
      case true =>
        have HO := Lib.hid (opOf_at hlt hh HJ.out)
        have t2 : ((nameS k).toList == s.toList) = true := by unfold opHit at hh; rw [Bool.and_eq_true] at hh; exact hh.2
        clear hh
        generalize nameS k = nm at *
        go_wp2_with fail
        go_ret
        exact ⟨by rw [HO.out]; first | done | rfl, B1.out⟩
      case false =>
        have HS : Hid (∀ j, j < k + 1 → opHit s j = false) := fun j hj => by
          rcases Nat.lt_or_ge j k with h | h
          · exact HJ.out j h
          · obtain rfl : j = k := by omega
            exact hh
        have t2 : ((nameS k).toList == s.toList) = false := by unfold opHit at hh; simpa [show 0 < k by omega] using hh
        clear hh
        generalize nameS k = nm at *
        go_wp2_with fail
        refine ⟨⟨k + 1, by omega, by omega, by go_num, HS.out⟩, ?_⟩
        simp [intOf]; omega
    · obtain rfl : k = 28 := by omega
      have HO := Lib.hid (opOf_no HJ.out)
      go_wp2_with fail
      go_ret
      exact ⟨by rw [HO.out]; rfl, B1.out⟩
end Go.Proofs.YtalmgjeiopjhlaaGreatDoor
