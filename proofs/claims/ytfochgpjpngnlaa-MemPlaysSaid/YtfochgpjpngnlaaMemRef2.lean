/- The document's memory: may, Load, Store, Fetch. -/
import Derived.Test.YtfochgpjpngnlaaMemRef
import Derived.Test.YtfochgpjpngnlaaRegF
namespace Go.Proofs.Ytfochgpjpngnlaa
open Go.RowKit
set_option linter.unusedVariables false
def mayB (N : Nat) (L : Nat → Reg) (l at_ k right : Nat) : Bool := decide (mayOk N L l at_ k right)
theorem mayE_B (N : Nat) (L : Nat → Reg) (l at_ k right : Nat) (h : ¬ mayBad k right) : mayE N L l at_ k right = if mayB N L l at_ k right then 0 else 60 := by
  unfold mayE mayB; rw [if_neg h]; by_cases e : mayOk N L l at_ k right <;> simp [e]
theorem mayM_B (N : Nat) (L : Nat → Reg) (l at_ k right : Nat) (h : ¬ mayBad k right) : mayM N L l at_ k right = if mayB N L l at_ k right then k else 0 := by
  unfold mayM mayB; rw [if_neg h]; by_cases e : mayOk N L l at_ k right <;> simp [e]
set_option maxHeartbeats 2000000 in
theorem rmay_any (M : MS) (a : Option Addr) (l c : Nat) (L : Nat → Reg) (at_ k right : Nat) (w : World) (h : MemAt w 48 M) (hL : RegsAt w a l L) (hl : l ≤ 9223372036854775807) (h1 : at_ < 4294967296) (h2 : k < 4294967296) (h3 : right < 256) :
    Calls Try.prog 30 #[.pointer (some ⟨M.g, 0, none⟩), .slice a l c, .int .u32 (at_ : Int), .int .u32 (k : Int), .int .u8 (right : Int)] w fun e w' => e = .returned (.bool (mayB M.n L l at_ k right)) ∧ Below w.heap.size w w' := by
  have H := Lib.hid h
  have HF := Lib.hid (rfind_any a l c L at_ k right w hL hl h1 h2 h3)
  clear h hL
  cases hf : (found L l at_ k right).isSome
  case false =>
    have e1 : mayB M.n L l at_ k right = false := by unfold mayB mayOk; simp [hf]
    have HV : Hid (findV (found L l at_ k right) = .tuple #[.int .i64 (((found L l at_ k right).getD 0 : Nat) : Int), .bool false]) := by show _ = _; unfold findV; rw [hf]
    rw [e1]
    clear e1 hf
    go_enter Try.func30, Try.ntmps30
    go_wp2_with fail
    refine HF.out.mono ?_
    rintro e w1 ⟨rfl, hb⟩
    have HB := Lib.hid hb
    clear hb HF
    rw [HV.out]
    go_wp2_with fail
    go_ret
    exact ⟨rfl, HB.out⟩
  case true =>
    have hk0 := found_pos hf
    have e1 : mayB M.n L l at_ k right = thereB M.n at_ k := by unfold mayB thereB; exact decide_eq_decide.2 (by unfold mayOk; simp [hf, hk0])
    have HV : Hid (findV (found L l at_ k right) = .tuple #[.int .i64 (((found L l at_ k right).getD 0 : Nat) : Int), .bool true]) := by show _ = _; unfold findV; rw [hf]
    rw [e1]
    clear e1 hf
    go_enter Try.func30, Try.ntmps30
    go_wp2_with fail
    refine HF.out.mono ?_
    rintro e w1 ⟨rfl, hb⟩
    have HB := Lib.hid hb
    clear hb HF
    rw [HV.out]
    have HT := Lib.hid (there_any M at_ k w1 (H.out.below HB.out) h1 (by omega))
    go_wp2_with fail
    refine HT.out.mono ?_
    rintro e w' ⟨rfl, rfl⟩
    go_wp2_with fail
    go_ret
    exact ⟨rfl, HB.out⟩
theorem leN_front (B : Nat → Nat) (a : Nat) : ∀ m, leN B a (m + 1) = B a + 256 * leN B (a + 1) m
  | 0 => by simp [leN]
  | m + 1 => by
    show leN B a (m + 1) + B (a + (m + 1)) * 256 ^ (m + 1) = B a + 256 * (leN B (a + 1) m + B (a + 1 + m) * 256 ^ m)
    rw [leN_front B a m, show a + (m + 1) = a + 1 + m by omega, Nat.pow_succ]
    have : B (a + 1 + m) * (256 ^ m * 256) = 256 * (B (a + 1 + m) * 256 ^ m) := by rw [← Nat.mul_assoc, Nat.mul_comm]
    omega
def LoadPost (M : MS) (L : Nat → Reg) (l at_ k : Nat) (w : World) (e : Ending) (w' : World) : Prop := e = .returned (.tuple #[.int .u32 ((leN M.B at_ (mayM M.n L l at_ k 1) : Nat) : Int), .int .i64 (mayE M.n L l at_ k 1)]) ∧ Below w.heap.size w w'
def StorePost (T : TypeId) (M : MS) (L : Nat → Reg) (l at_ k x : Nat) (w : World) (e : Ending) (w' : World) : Prop := e = .returned (.int .i64 (mayE M.n L l at_ k 2)) ∧ MemAt w' T (M.put at_ (mayM M.n L l at_ k 2) (stB x)) ∧ Only M.W w w'
set_option maxHeartbeats 8000000 in
theorem rload_any (M : MS) (a : Option Addr) (l c : Nat) (L : Nat → Reg) (at_ k : Nat) (w : World) (h : MemAt w 48 M) (hL : RegsAt w a l L) (hl : l ≤ 9223372036854775807) (h1 : at_ < 4294967296) (h2 : k < 256) :
    Calls Try.prog 18 #[.pointer (some ⟨M.g, 0, none⟩), .slice a l c, .int .u32 (at_ : Int), .int .u8 (k : Int)] w (LoadPost M L l at_ k w) := by
  have H := Lib.hid h
  have HM : Hid (Calls Try.prog 30 #[.pointer (some ⟨M.g, 0, none⟩), .slice a l c, .int .u32 (at_ : Int), .int .u32 (k : Int), .int .u8 1] w fun e w' => e = .returned (.bool (mayB M.n L l at_ k 1)) ∧ Below w.heap.size w w') := rmay_any M a l c L at_ k 1 w h hL hl h1 (by omega) (by omega)
  have HBAD : Hid (mayBad k 1 → LoadPost M L l at_ k w (.returned (.tuple #[.int .u32 0, .int .i64 2])) w) := fun h => ⟨by unfold mayM mayE; rw [if_pos h, if_pos h]; rfl, Below.refl _ _⟩
  have HGOOD : Hid (¬ mayBad k 1 → (mayB M.n L l at_ k 1 = false → ∀ w', Below w.heap.size w w' → LoadPost M L l at_ k w (.returned (.tuple #[.int .u32 0, .int .i64 60])) w') ∧ (mayB M.n L l at_ k 1 = true → ∀ w', Below w.heap.size w w' → LoadPost M L l at_ k w (.returned (.tuple #[.int .u32 ((leN M.B at_ k : Nat) : Int), .int .i64 0])) w')) :=
    fun hb => ⟨fun e w' hw => ⟨by rw [mayE_B _ _ _ _ _ _ hb, mayM_B _ _ _ _ _ _ hb, e]; rfl, hw⟩, fun e w' hw => ⟨by rw [mayE_B _ _ _ _ _ _ hb, mayM_B _ _ _ _ _ _ hb, e]; rfl, hw⟩⟩
  clear h hL
  by_cases hbad : k ≠ 1 ∧ k ≠ 2 ∧ k ≠ 4
  · obtain ⟨b1, b2, b3⟩ := hbad
    have t1 : ((k : Int) == 1) = false := by simp; omega
    have t1' : ((k : Int) != 1) = true := by simp; omega
    have t2 : ((k : Int) == 2) = false := by simp; omega
    have t2' : ((k : Int) != 2) = true := by simp; omega
    have t3 : ((k : Int) == 4) = false := by simp; omega
    have t3' : ((k : Int) != 4) = true := by simp; omega
    have HR := Lib.hid (HBAD.out ⟨b1, b2, b3, by omega⟩)
    clear b1 b2 b3 HBAD HGOOD
    go_enter Try.func18, Try.ntmps18
    go_wp2_with fail
    go_ret2
    exact HR.out
  have HG := Lib.hid (HGOOD.out (fun h => hbad ⟨h.1, h.2.1, h.2.2.1⟩))
  clear HGOOD HBAD
  by_cases c1 : k = 1
  · have t1 : ((k : Int) == 1) = true := by simp; omega
    have t1' : ((k : Int) != 1) = false := by simp; omega
    clear hbad
    have hk4 : k ≤ 4 := by omega
    have hk0 : 0 < k := by omega
    cases hb : mayB M.n L l at_ k 1
    case false =>
      have HR := Lib.hid (HG.out.1 hb)
      have HY := HM
      rw [hb] at HY
      clear hb HG HM
      try clear c1
      try clear c2
      try clear c3
      go_enter Try.func18, Try.ntmps18
      go_wp2_with fail
      refine HY.out.mono ?_
      rintro e w1 ⟨rfl, hb⟩
      have HB := Lib.hid hb
      clear hb
      go_wp2_with fail
      go_ret2
      exact HR.out _ HB.out
    case true =>
      have HR := Lib.hid (HG.out.2 hb)
      have hfit : at_ + k ≤ M.n := by unfold mayB mayOk at hb; exact (of_decide_eq_true hb).2
      have HY := HM
      rw [hb] at HY
      clear hb HG HM
      try clear c1
      try clear c2
      try clear c3
      go_enter Try.func18, Try.ntmps18
      go_wp2_with fail
      refine HY.out.mono ?_
      rintro e w1 ⟨rfl, hb⟩
      have HB := Lib.hid hb
      have HJ := Lib.hid (H.out.below hb)
      clear hb HY
      go_wp2_with fail
      go_loop [10, 11] (fun x i => ∃ j : Nat, j ≤ k ∧ i = .int .i64 ((j : Int) - 1) ∧ x = .int .u32 ((leN M.B (at_ + j) (k - j) : Nat) : Int)) (fun _ i => (intOf i + 1).toNat)
      case atStart => exact ⟨k, Nat.le_refl _, rfl, by rw [Nat.sub_self]; rfl⟩
      case round =>
        obtain ⟨j, hj, rfl, rfl⟩ := hrel
        cases j with
        | zero =>
          have t0 : decide ((0 : Int) ≤ ((0 : Nat) : Int) - 1) = false := by decide
          have HZ : Hid (leN M.B (at_ + 0) (k - 0) = leN M.B at_ k) := rfl
          rw [HZ.out]
          go_wp2_with fail
          go_ret2
          exact HR.out _ HB.out
        | succ j =>
          have e0 : (((j + 1 : Nat) : Int) - 1) = (j : Int) := by omega
          rw [e0]
          have hj0 : (0 : Int) ≤ (j : Int) := by omega
          have ha1 : (at_ : Int) + (j : Int) < (M.n : Int) := by omega
          have hn := H.out.n
          have c0 := HJ.out.cell
          obtain ⟨a1, c1, e1, e2, e3, e4⟩ := HJ.out.sl
          obtain ⟨rfl, e5⟩ := e4 (by omega)
          have c2 : w1.cell? ⟨M.b, at_ + j, none⟩ = some (.int .u8 ((M.B (at_ + j) : Nat) : Int)) := e5.cell (by omega)
          rw [e1] at c0
          clear e0 e1 e2 e3 e4 e5
          have hx : leN M.B (at_ + (j + 1)) (k - (j + 1)) < 16777216 := Nat.lt_of_lt_of_le (leN_lt H.out.lt _ _) (show 256 ^ (k - (j + 1)) ≤ 256 ^ 3 from Nat.pow_le_pow_right (by omega) (by omega))
          have hc := H.out.lt (at_ + j)
          have HS : Hid (leN M.B (at_ + j) (k - j) = M.B (at_ + j) + 256 * leN M.B (at_ + (j + 1)) (k - (j + 1))) := by
            show _ = _
            rw [show k - j = (k - (j + 1)) + 1 by omega, leN_front]
            rfl
          generalize leN M.B (at_ + (j + 1)) (k - (j + 1)) = x at *
          generalize M.B (at_ + j) = cc at *
          go_wp2_with fail
          refine ⟨⟨j, by omega, by go_num, ?_⟩, ?_⟩
          · rw [HS.out]; congr 1; omega
          · simp [intOf] <;> omega
  have t1 : ((k : Int) == 1) = false := by simp; omega
  have t1' : ((k : Int) != 1) = true := by simp; omega
  by_cases c2 : k = 2
  · have t2 : ((k : Int) == 2) = true := by simp; omega
    have t2' : ((k : Int) != 2) = false := by simp; omega
    clear hbad
    have hk4 : k ≤ 4 := by omega
    have hk0 : 0 < k := by omega
    cases hb : mayB M.n L l at_ k 1
    case false =>
      have HR := Lib.hid (HG.out.1 hb)
      have HY := HM
      rw [hb] at HY
      clear hb HG HM
      try clear c1
      try clear c2
      try clear c3
      go_enter Try.func18, Try.ntmps18
      go_wp2_with fail
      refine HY.out.mono ?_
      rintro e w1 ⟨rfl, hb⟩
      have HB := Lib.hid hb
      clear hb
      go_wp2_with fail
      go_ret2
      exact HR.out _ HB.out
    case true =>
      have HR := Lib.hid (HG.out.2 hb)
      have hfit : at_ + k ≤ M.n := by unfold mayB mayOk at hb; exact (of_decide_eq_true hb).2
      have HY := HM
      rw [hb] at HY
      clear hb HG HM
      try clear c1
      try clear c2
      try clear c3
      go_enter Try.func18, Try.ntmps18
      go_wp2_with fail
      refine HY.out.mono ?_
      rintro e w1 ⟨rfl, hb⟩
      have HB := Lib.hid hb
      have HJ := Lib.hid (H.out.below hb)
      clear hb HY
      go_wp2_with fail
      go_loop [10, 11] (fun x i => ∃ j : Nat, j ≤ k ∧ i = .int .i64 ((j : Int) - 1) ∧ x = .int .u32 ((leN M.B (at_ + j) (k - j) : Nat) : Int)) (fun _ i => (intOf i + 1).toNat)
      case atStart => exact ⟨k, Nat.le_refl _, rfl, by rw [Nat.sub_self]; rfl⟩
      case round =>
        obtain ⟨j, hj, rfl, rfl⟩ := hrel
        cases j with
        | zero =>
          have t0 : decide ((0 : Int) ≤ ((0 : Nat) : Int) - 1) = false := by decide
          have HZ : Hid (leN M.B (at_ + 0) (k - 0) = leN M.B at_ k) := rfl
          rw [HZ.out]
          go_wp2_with fail
          go_ret2
          exact HR.out _ HB.out
        | succ j =>
          have e0 : (((j + 1 : Nat) : Int) - 1) = (j : Int) := by omega
          rw [e0]
          have hj0 : (0 : Int) ≤ (j : Int) := by omega
          have ha1 : (at_ : Int) + (j : Int) < (M.n : Int) := by omega
          have hn := H.out.n
          have c0 := HJ.out.cell
          obtain ⟨a1, c1, e1, e2, e3, e4⟩ := HJ.out.sl
          obtain ⟨rfl, e5⟩ := e4 (by omega)
          have c2 : w1.cell? ⟨M.b, at_ + j, none⟩ = some (.int .u8 ((M.B (at_ + j) : Nat) : Int)) := e5.cell (by omega)
          rw [e1] at c0
          clear e0 e1 e2 e3 e4 e5
          have hx : leN M.B (at_ + (j + 1)) (k - (j + 1)) < 16777216 := Nat.lt_of_lt_of_le (leN_lt H.out.lt _ _) (show 256 ^ (k - (j + 1)) ≤ 256 ^ 3 from Nat.pow_le_pow_right (by omega) (by omega))
          have hc := H.out.lt (at_ + j)
          have HS : Hid (leN M.B (at_ + j) (k - j) = M.B (at_ + j) + 256 * leN M.B (at_ + (j + 1)) (k - (j + 1))) := by
            show _ = _
            rw [show k - j = (k - (j + 1)) + 1 by omega, leN_front]
            rfl
          generalize leN M.B (at_ + (j + 1)) (k - (j + 1)) = x at *
          generalize M.B (at_ + j) = cc at *
          go_wp2_with fail
          refine ⟨⟨j, by omega, by go_num, ?_⟩, ?_⟩
          · rw [HS.out]; congr 1; omega
          · simp [intOf] <;> omega
  have t2 : ((k : Int) == 2) = false := by simp; omega
  have t2' : ((k : Int) != 2) = true := by simp; omega
  obtain c3 : k = 4 := by omega
  have t3 : ((k : Int) == 4) = true := by simp; omega
  have t3' : ((k : Int) != 4) = false := by simp; omega
  clear hbad
  have hk4 : k ≤ 4 := by omega
  have hk0 : 0 < k := by omega
  cases hb : mayB M.n L l at_ k 1
  case false =>
    have HR := Lib.hid (HG.out.1 hb)
    have HY := HM
    rw [hb] at HY
    clear hb HG HM
    try clear c1
    try clear c2
    try clear c3
    go_enter Try.func18, Try.ntmps18
    go_wp2_with fail
    refine HY.out.mono ?_
    rintro e w1 ⟨rfl, hb⟩
    have HB := Lib.hid hb
    clear hb
    go_wp2_with fail
    go_ret2
    exact HR.out _ HB.out
  case true =>
    have HR := Lib.hid (HG.out.2 hb)
    have hfit : at_ + k ≤ M.n := by unfold mayB mayOk at hb; exact (of_decide_eq_true hb).2
    have HY := HM
    rw [hb] at HY
    clear hb HG HM
    try clear c1
    try clear c2
    try clear c3
    go_enter Try.func18, Try.ntmps18
    go_wp2_with fail
    refine HY.out.mono ?_
    rintro e w1 ⟨rfl, hb⟩
    have HB := Lib.hid hb
    have HJ := Lib.hid (H.out.below hb)
    clear hb HY
    go_wp2_with fail
    go_loop [10, 11] (fun x i => ∃ j : Nat, j ≤ k ∧ i = .int .i64 ((j : Int) - 1) ∧ x = .int .u32 ((leN M.B (at_ + j) (k - j) : Nat) : Int)) (fun _ i => (intOf i + 1).toNat)
    case atStart => exact ⟨k, Nat.le_refl _, rfl, by rw [Nat.sub_self]; rfl⟩
    case round =>
      obtain ⟨j, hj, rfl, rfl⟩ := hrel
      cases j with
      | zero =>
        have t0 : decide ((0 : Int) ≤ ((0 : Nat) : Int) - 1) = false := by decide
        have HZ : Hid (leN M.B (at_ + 0) (k - 0) = leN M.B at_ k) := rfl
        rw [HZ.out]
        go_wp2_with fail
        go_ret2
        exact HR.out _ HB.out
      | succ j =>
        have e0 : (((j + 1 : Nat) : Int) - 1) = (j : Int) := by omega
        rw [e0]
        have hj0 : (0 : Int) ≤ (j : Int) := by omega
        have ha1 : (at_ : Int) + (j : Int) < (M.n : Int) := by omega
        have hn := H.out.n
        have c0 := HJ.out.cell
        obtain ⟨a1, c1, e1, e2, e3, e4⟩ := HJ.out.sl
        obtain ⟨rfl, e5⟩ := e4 (by omega)
        have c2 : w1.cell? ⟨M.b, at_ + j, none⟩ = some (.int .u8 ((M.B (at_ + j) : Nat) : Int)) := e5.cell (by omega)
        rw [e1] at c0
        clear e0 e1 e2 e3 e4 e5
        have hx : leN M.B (at_ + (j + 1)) (k - (j + 1)) < 16777216 := Nat.lt_of_lt_of_le (leN_lt H.out.lt _ _) (show 256 ^ (k - (j + 1)) ≤ 256 ^ 3 from Nat.pow_le_pow_right (by omega) (by omega))
        have hc := H.out.lt (at_ + j)
        have HS : Hid (leN M.B (at_ + j) (k - j) = M.B (at_ + j) + 256 * leN M.B (at_ + (j + 1)) (k - (j + 1))) := by
          show _ = _
          rw [show k - j = (k - (j + 1)) + 1 by omega, leN_front]
          rfl
        generalize leN M.B (at_ + (j + 1)) (k - (j + 1)) = x at *
        generalize M.B (at_ + j) = cc at *
        go_wp2_with fail
        refine ⟨⟨j, by omega, by go_num, ?_⟩, ?_⟩
        · rw [HS.out]; congr 1; omega
        · simp [intOf] <;> omega
set_option maxHeartbeats 8000000 in
theorem rstore_any (M : MS) (a : Option Addr) (l c : Nat) (L : Nat → Reg) (at_ k x : Nat) (w : World) (h : MemAt w 48 M) (hL : RegsAt w a l L) (hl : l ≤ 9223372036854775807) (h1 : at_ < 4294967296) (h2 : k < 256) (hx : x < 4294967296) :
    Calls Try.prog 20 #[.pointer (some ⟨M.g, 0, none⟩), .slice a l c, .int .u32 (at_ : Int), .int .u8 (k : Int), .int .u32 (x : Int)] w (StorePost 48 M L l at_ k x w) := by
  have H := Lib.hid h
  have HM : Hid (Calls Try.prog 30 #[.pointer (some ⟨M.g, 0, none⟩), .slice a l c, .int .u32 (at_ : Int), .int .u32 (k : Int), .int .u8 2] w fun e w' => e = .returned (.bool (mayB M.n L l at_ k 2)) ∧ Below w.heap.size w w') := rmay_any M a l c L at_ k 2 w h hL hl h1 (by omega) (by omega)
  have HXl : Hid (∀ i, stB x i < 256) := fun i => Nat.mod_lt _ (by omega)
  have HBAD : Hid (mayBad k 2 → StorePost 48 M L l at_ k x w (.returned (.int .i64 2)) w) := fun h => ⟨by unfold mayE; rw [if_pos h], by unfold mayM; rw [if_pos h, put_zero]; exact H.out, Only.refl _ _⟩
  have HGOOD : Hid (¬ mayBad k 2 → (mayB M.n L l at_ k 2 = false → ∀ w', Below w.heap.size w w' → StorePost 48 M L l at_ k x w (.returned (.int .i64 60)) w') ∧ (mayB M.n L l at_ k 2 = true → ∀ w', MemAt w' 48 (M.put at_ k (stB x)) → Only M.W w w' → StorePost 48 M L l at_ k x w (.returned (.int .i64 0)) w')) :=
    fun hb => ⟨fun e w' hw => ⟨by rw [mayE_B _ _ _ _ _ _ hb, e]; rfl, by rw [mayM_B _ _ _ _ _ _ hb, e]; simp only [Bool.false_eq_true, if_false]; rw [put_zero]; exact H.out.below hw, Only.of_below _ hw⟩, fun e w' hm ho => ⟨by rw [mayE_B _ _ _ _ _ _ hb, e]; rfl, by rw [mayM_B _ _ _ _ _ _ hb, e]; exact hm, ho⟩⟩
  clear h hL
  by_cases hbad : k ≠ 1 ∧ k ≠ 2 ∧ k ≠ 4
  · obtain ⟨b1, b2, b3⟩ := hbad
    have t1 : ((k : Int) == 1) = false := by simp; omega
    have t1' : ((k : Int) != 1) = true := by simp; omega
    have t2 : ((k : Int) == 2) = false := by simp; omega
    have t2' : ((k : Int) != 2) = true := by simp; omega
    have t3 : ((k : Int) == 4) = false := by simp; omega
    have t3' : ((k : Int) != 4) = true := by simp; omega
    have HR := Lib.hid (HBAD.out ⟨b1, b2, b3, by omega⟩)
    clear b1 b2 b3 HBAD HGOOD
    go_enter Try.func20, Try.ntmps20
    go_wp2_with fail
    go_ret
    exact HR.out
  have HG := Lib.hid (HGOOD.out (fun h => hbad ⟨h.1, h.2.1, h.2.2.1⟩))
  clear HGOOD HBAD
  by_cases c1 : k = 1
  · have t1 : ((k : Int) == 1) = true := by simp; omega
    have t1' : ((k : Int) != 1) = false := by simp; omega
    clear hbad
    have hk4 : k ≤ 4 := by omega
    have hk0 : 0 < k := by omega
    cases hb : mayB M.n L l at_ k 2
    case false =>
      have HR := Lib.hid (HG.out.1 hb)
      have HY := HM
      rw [hb] at HY
      clear hb HG HM
      try clear c1
      try clear c2
      try clear c3
      go_enter Try.func20, Try.ntmps20
      go_wp2_with fail
      refine HY.out.mono ?_
      rintro e w1 ⟨rfl, hb⟩
      have HB := Lib.hid hb
      clear hb
      go_wp2_with fail
      go_ret
      exact HR.out _ HB.out
    case true =>
      have HR := Lib.hid (HG.out.2 hb)
      have hfit : at_ + k ≤ M.n := by unfold mayB mayOk at hb; exact (of_decide_eq_true hb).2
      have HY := HM
      rw [hb] at HY
      clear hb HG HM
      try clear c1
      try clear c2
      try clear c3
      go_enter Try.func20, Try.ntmps20
      go_wp2_with fail
      refine HY.out.mono ?_
      rintro e w1 ⟨rfl, hb⟩
      have HZ : Hid (MemAt w1 48 (M.put at_ 0 (stB x))) := by rw [put_zero]; exact H.out.below hb
      have OZ : Hid (Only M.W w w1) := Only.of_below _ hb
      clear hb HY
      go_wp2_with fail
      go_loopw [4, 11] (fun y i wr => ∃ j : Nat, j ≤ k ∧ i = .int .i64 (j : Int) ∧ y = .int .u32 ((x / 256 ^ j : Nat) : Int) ∧ MemAt wr 48 (M.put at_ j (stB x)) ∧ Only M.W w wr) (fun _ i _ => k - (intOf i).toNat)
      case atStart => exact ⟨0, Nat.zero_le _, rfl, by rw [Nat.pow_zero, Nat.div_one], HZ.out, OZ.out⟩
      case round =>
        obtain ⟨j, hj, rfl, rfl, r1, r2⟩ := hrel
        have HJ := Lib.hid r1; have OJ := Lib.hid r2
        clear r1 r2
        by_cases hlt : j < k
        · have hji : (j : Int) < (k : Int) := by omega
          have hj0 : (0 : Int) ≤ (j : Int) := by omega
          have ha1 : (at_ : Int) + (j : Int) < (M.n : Int) := by omega
          have ha2 : at_ + j < M.n := by omega
          have hn := H.out.n
          have c0 := HJ.out.cell
          obtain ⟨a1, c1, e1, e2, e3, e4⟩ := HJ.out.sl
          obtain ⟨rfl, e5⟩ := e4 (by show 0 < M.n; omega)
          have c2 : wr.cell? ⟨M.b, at_ + j, none⟩ = some (bV (M.put at_ j (stB x)).B (at_ + j)) := e5.cell ha2
          have f2 : wr.frozen? ⟨M.b, at_ + j, none⟩ = false := e5.frozen _
          have hbl : M.b < wr.heap.size := e5.lt
          have c0' : wr.cell? ⟨M.g, 0, none⟩ = some (.slice (some ⟨M.b, 0, none⟩) M.n c1) := c0.trans (congrArg some e1)
          clear c0 e1 e2 e3 e4 e5
          unfold bV at c2
          generalize (M.put at_ j (stB x)).B (at_ + j) = old at *
          have hy : x / 256 ^ j < 4294967296 := Nat.lt_of_le_of_lt (Nat.div_le_self _ _) hx
          have HS : Hid (stB x j = x / 256 ^ j % 256) := rfl
          have HD : Hid (x / 256 ^ (j + 1) = x / 256 ^ j / 256) := by show _ = _; rw [Nat.pow_succ, Nat.div_div_eq_div_mul]
          have HP : Hid (MemAt (wr.setCell ⟨M.b, at_ + j, none⟩ (.int .u8 (((x / 256 ^ j : Nat) : Int) % 256))) 48 (M.put at_ (j + 1) (stB x))) := HJ.out.put1 HXl.out ha2
          have HO : Hid (Only M.W w (wr.setCell ⟨M.b, at_ + j, none⟩ (.int .u8 (((x / 256 ^ j : Nat) : Int) % 256)))) := OJ.out.set _ _ (.inr ⟨by omega, rfl⟩)
          generalize x / 256 ^ j = y at *
          go_wp2_with fail
          go_roundw
          case rel => exact ⟨j + 1, by omega, by go_num, by rw [HD.out]; rfl, HP.out, HO.out⟩
          case measure => simp [intOf]; omega
        · obtain rfl : j = k := by omega
          go_wp2_with fail
          go_ret
          exact HR.out _ HJ.out OJ.out
  have t1 : ((k : Int) == 1) = false := by simp; omega
  have t1' : ((k : Int) != 1) = true := by simp; omega
  by_cases c2 : k = 2
  · have t2 : ((k : Int) == 2) = true := by simp; omega
    have t2' : ((k : Int) != 2) = false := by simp; omega
    clear hbad
    have hk4 : k ≤ 4 := by omega
    have hk0 : 0 < k := by omega
    cases hb : mayB M.n L l at_ k 2
    case false =>
      have HR := Lib.hid (HG.out.1 hb)
      have HY := HM
      rw [hb] at HY
      clear hb HG HM
      try clear c1
      try clear c2
      try clear c3
      go_enter Try.func20, Try.ntmps20
      go_wp2_with fail
      refine HY.out.mono ?_
      rintro e w1 ⟨rfl, hb⟩
      have HB := Lib.hid hb
      clear hb
      go_wp2_with fail
      go_ret
      exact HR.out _ HB.out
    case true =>
      have HR := Lib.hid (HG.out.2 hb)
      have hfit : at_ + k ≤ M.n := by unfold mayB mayOk at hb; exact (of_decide_eq_true hb).2
      have HY := HM
      rw [hb] at HY
      clear hb HG HM
      try clear c1
      try clear c2
      try clear c3
      go_enter Try.func20, Try.ntmps20
      go_wp2_with fail
      refine HY.out.mono ?_
      rintro e w1 ⟨rfl, hb⟩
      have HZ : Hid (MemAt w1 48 (M.put at_ 0 (stB x))) := by rw [put_zero]; exact H.out.below hb
      have OZ : Hid (Only M.W w w1) := Only.of_below _ hb
      clear hb HY
      go_wp2_with fail
      go_loopw [4, 11] (fun y i wr => ∃ j : Nat, j ≤ k ∧ i = .int .i64 (j : Int) ∧ y = .int .u32 ((x / 256 ^ j : Nat) : Int) ∧ MemAt wr 48 (M.put at_ j (stB x)) ∧ Only M.W w wr) (fun _ i _ => k - (intOf i).toNat)
      case atStart => exact ⟨0, Nat.zero_le _, rfl, by rw [Nat.pow_zero, Nat.div_one], HZ.out, OZ.out⟩
      case round =>
        obtain ⟨j, hj, rfl, rfl, r1, r2⟩ := hrel
        have HJ := Lib.hid r1; have OJ := Lib.hid r2
        clear r1 r2
        by_cases hlt : j < k
        · have hji : (j : Int) < (k : Int) := by omega
          have hj0 : (0 : Int) ≤ (j : Int) := by omega
          have ha1 : (at_ : Int) + (j : Int) < (M.n : Int) := by omega
          have ha2 : at_ + j < M.n := by omega
          have hn := H.out.n
          have c0 := HJ.out.cell
          obtain ⟨a1, c1, e1, e2, e3, e4⟩ := HJ.out.sl
          obtain ⟨rfl, e5⟩ := e4 (by show 0 < M.n; omega)
          have c2 : wr.cell? ⟨M.b, at_ + j, none⟩ = some (bV (M.put at_ j (stB x)).B (at_ + j)) := e5.cell ha2
          have f2 : wr.frozen? ⟨M.b, at_ + j, none⟩ = false := e5.frozen _
          have hbl : M.b < wr.heap.size := e5.lt
          have c0' : wr.cell? ⟨M.g, 0, none⟩ = some (.slice (some ⟨M.b, 0, none⟩) M.n c1) := c0.trans (congrArg some e1)
          clear c0 e1 e2 e3 e4 e5
          unfold bV at c2
          generalize (M.put at_ j (stB x)).B (at_ + j) = old at *
          have hy : x / 256 ^ j < 4294967296 := Nat.lt_of_le_of_lt (Nat.div_le_self _ _) hx
          have HS : Hid (stB x j = x / 256 ^ j % 256) := rfl
          have HD : Hid (x / 256 ^ (j + 1) = x / 256 ^ j / 256) := by show _ = _; rw [Nat.pow_succ, Nat.div_div_eq_div_mul]
          have HP : Hid (MemAt (wr.setCell ⟨M.b, at_ + j, none⟩ (.int .u8 (((x / 256 ^ j : Nat) : Int) % 256))) 48 (M.put at_ (j + 1) (stB x))) := HJ.out.put1 HXl.out ha2
          have HO : Hid (Only M.W w (wr.setCell ⟨M.b, at_ + j, none⟩ (.int .u8 (((x / 256 ^ j : Nat) : Int) % 256)))) := OJ.out.set _ _ (.inr ⟨by omega, rfl⟩)
          generalize x / 256 ^ j = y at *
          go_wp2_with fail
          go_roundw
          case rel => exact ⟨j + 1, by omega, by go_num, by rw [HD.out]; rfl, HP.out, HO.out⟩
          case measure => simp [intOf]; omega
        · obtain rfl : j = k := by omega
          go_wp2_with fail
          go_ret
          exact HR.out _ HJ.out OJ.out
  have t2 : ((k : Int) == 2) = false := by simp; omega
  have t2' : ((k : Int) != 2) = true := by simp; omega
  obtain c3 : k = 4 := by omega
  have t3 : ((k : Int) == 4) = true := by simp; omega
  have t3' : ((k : Int) != 4) = false := by simp; omega
  clear hbad
  have hk4 : k ≤ 4 := by omega
  have hk0 : 0 < k := by omega
  cases hb : mayB M.n L l at_ k 2
  case false =>
    have HR := Lib.hid (HG.out.1 hb)
    have HY := HM
    rw [hb] at HY
    clear hb HG HM
    try clear c1
    try clear c2
    try clear c3
    go_enter Try.func20, Try.ntmps20
    go_wp2_with fail
    refine HY.out.mono ?_
    rintro e w1 ⟨rfl, hb⟩
    have HB := Lib.hid hb
    clear hb
    go_wp2_with fail
    go_ret
    exact HR.out _ HB.out
  case true =>
    have HR := Lib.hid (HG.out.2 hb)
    have hfit : at_ + k ≤ M.n := by unfold mayB mayOk at hb; exact (of_decide_eq_true hb).2
    have HY := HM
    rw [hb] at HY
    clear hb HG HM
    try clear c1
    try clear c2
    try clear c3
    go_enter Try.func20, Try.ntmps20
    go_wp2_with fail
    refine HY.out.mono ?_
    rintro e w1 ⟨rfl, hb⟩
    have HZ : Hid (MemAt w1 48 (M.put at_ 0 (stB x))) := by rw [put_zero]; exact H.out.below hb
    have OZ : Hid (Only M.W w w1) := Only.of_below _ hb
    clear hb HY
    go_wp2_with fail
    go_loopw [4, 11] (fun y i wr => ∃ j : Nat, j ≤ k ∧ i = .int .i64 (j : Int) ∧ y = .int .u32 ((x / 256 ^ j : Nat) : Int) ∧ MemAt wr 48 (M.put at_ j (stB x)) ∧ Only M.W w wr) (fun _ i _ => k - (intOf i).toNat)
    case atStart => exact ⟨0, Nat.zero_le _, rfl, by rw [Nat.pow_zero, Nat.div_one], HZ.out, OZ.out⟩
    case round =>
      obtain ⟨j, hj, rfl, rfl, r1, r2⟩ := hrel
      have HJ := Lib.hid r1; have OJ := Lib.hid r2
      clear r1 r2
      by_cases hlt : j < k
      · have hji : (j : Int) < (k : Int) := by omega
        have hj0 : (0 : Int) ≤ (j : Int) := by omega
        have ha1 : (at_ : Int) + (j : Int) < (M.n : Int) := by omega
        have ha2 : at_ + j < M.n := by omega
        have hn := H.out.n
        have c0 := HJ.out.cell
        obtain ⟨a1, c1, e1, e2, e3, e4⟩ := HJ.out.sl
        obtain ⟨rfl, e5⟩ := e4 (by show 0 < M.n; omega)
        have c2 : wr.cell? ⟨M.b, at_ + j, none⟩ = some (bV (M.put at_ j (stB x)).B (at_ + j)) := e5.cell ha2
        have f2 : wr.frozen? ⟨M.b, at_ + j, none⟩ = false := e5.frozen _
        have hbl : M.b < wr.heap.size := e5.lt
        have c0' : wr.cell? ⟨M.g, 0, none⟩ = some (.slice (some ⟨M.b, 0, none⟩) M.n c1) := c0.trans (congrArg some e1)
        clear c0 e1 e2 e3 e4 e5
        unfold bV at c2
        generalize (M.put at_ j (stB x)).B (at_ + j) = old at *
        have hy : x / 256 ^ j < 4294967296 := Nat.lt_of_le_of_lt (Nat.div_le_self _ _) hx
        have HS : Hid (stB x j = x / 256 ^ j % 256) := rfl
        have HD : Hid (x / 256 ^ (j + 1) = x / 256 ^ j / 256) := by show _ = _; rw [Nat.pow_succ, Nat.div_div_eq_div_mul]
        have HP : Hid (MemAt (wr.setCell ⟨M.b, at_ + j, none⟩ (.int .u8 (((x / 256 ^ j : Nat) : Int) % 256))) 48 (M.put at_ (j + 1) (stB x))) := HJ.out.put1 HXl.out ha2
        have HO : Hid (Only M.W w (wr.setCell ⟨M.b, at_ + j, none⟩ (.int .u8 (((x / 256 ^ j : Nat) : Int) % 256)))) := OJ.out.set _ _ (.inr ⟨by omega, rfl⟩)
        generalize x / 256 ^ j = y at *
        go_wp2_with fail
        go_roundw
        case rel => exact ⟨j + 1, by omega, by go_num, by rw [HD.out]; rfl, HP.out, HO.out⟩
        case measure => simp [intOf]; omega
      · obtain rfl : j = k := by omega
        go_wp2_with fail
        go_ret
        exact HR.out _ HJ.out OJ.out
def FetchPost (M : MS) (L : Nat → Reg) (l at_ : Nat) (w : World) (e : Ending) (w' : World) : Prop := ∃ v, e = .returned (.tuple #[v, .int .i64 (mayE M.n L l at_ 8 4)]) ∧ GotAt w w' v (mayM M.n L l at_ 8 4) (fun i => M.B (at_ + i))
set_option maxHeartbeats 2000000 in
theorem rfetch_any (M : MS) (a : Option Addr) (l c : Nat) (L : Nat → Reg) (at_ : Nat) (w : World) (h : MemAt w 48 M) (hL : RegsAt w a l L) (hl : l ≤ 9223372036854775807) (h1 : at_ < 4294967296) :
    Calls Try.prog 22 #[.pointer (some ⟨M.g, 0, none⟩), .slice a l c, .int .u32 (at_ : Int)] w (FetchPost M L l at_ w) := by
  have H := Lib.hid h
  have HM : Hid (Calls Try.prog 30 #[.pointer (some ⟨M.g, 0, none⟩), .slice a l c, .int .u32 (at_ : Int), .int .u32 8, .int .u8 4] w fun e w' => e = .returned (.bool (mayB M.n L l at_ 8 4)) ∧ Below w.heap.size w w') := rmay_any M a l c L at_ 8 4 w h hL hl h1 (by omega) (by omega)
  have hgood : ¬ mayBad 8 4 := fun h => absurd h.2.2.2 (by decide)
  clear h hL
  cases hb : mayB M.n L l at_ 8 4
  case false =>
    rw [hb] at HM
    have HR : Hid (∀ w', Below w.heap.size w w' → FetchPost M L l at_ w (.returned (.tuple #[.slice none 0 0, .int .i64 60])) w') := fun w' hw => ⟨_, by rw [mayE_B _ _ _ _ _ _ hgood, hb]; rfl, by rw [mayM_B _ _ _ _ _ _ hgood, hb]; exact GotAt.nil _ _ _ hw⟩
    clear hb hgood
    go_enter Try.func22, Try.ntmps22
    go_wp2_with fail
    refine HM.out.mono ?_
    rintro e w1 ⟨rfl, hb⟩
    have HB := Lib.hid hb
    clear hb
    go_wp2_with fail
    go_ret2
    exact HR.out _ HB.out
  case true =>
    rw [hb] at HM
    have hfit : at_ + 8 ≤ M.n := by unfold mayB at hb; exact (of_decide_eq_true hb).2
    have HR : Hid (∀ w1 w' v, Below w.heap.size w w1 → GotAt w1 w' v 8 (fun i => M.B (at_ + i)) → FetchPost M L l at_ w (.returned (.tuple #[v, .int .i64 0])) w') := fun w1 w' v hw hg => by
      obtain ⟨⟨b, g1, g2⟩, g3⟩ := hg
      exact ⟨v, by rw [mayE_B _ _ _ _ _ _ hgood, hb]; rfl, by rw [mayM_B _ _ _ _ _ _ hgood, hb, if_pos rfl]; exact ⟨⟨b, g1, fun hp => ⟨Nat.le_trans hw.size (g2 hp).1, (g2 hp).2⟩⟩, hw.trans (g3.mono hw.size)⟩⟩
    have e1 : partE M.n at_ 8 = 0 := by unfold partE; rw [if_neg (by omega), if_neg (by omega)]
    have e2 : partM M.n at_ 8 = 8 := by unfold partM; rw [if_neg (by omega)]
    have HE1 := Lib.hid e1; have HE2 := Lib.hid e2
    clear hb hgood e1 e2
    go_enter Try.func22, Try.ntmps22
    go_wp2_with fail
    refine HM.out.mono ?_
    rintro e w1 ⟨rfl, hb⟩
    have HB := Lib.hid hb
    have HGet : Hid (Calls Try.prog 16 #[.pointer (some ⟨M.g, 0, none⟩), .int .u32 (at_ : Int), .int .u32 8] w1 (GetPost M at_ 8 w1)) := rget_any M at_ 8 w1 (H.out.below hb) h1 (by omega)
    clear hb HM
    go_wp2_with fail
    refine HGet.out.mono ?_
    unfold GetPost
    rw [HE1.out, HE2.out]
    rintro e w2 ⟨v, rfl, hg⟩
    have HGot := Lib.hid hg
    clear hg HGet
    go_wp2_with fail
    go_ret2
    exact HR.out _ _ _ HB.out HGot.out
end Go.Proofs.Ytfochgpjpngnlaa
