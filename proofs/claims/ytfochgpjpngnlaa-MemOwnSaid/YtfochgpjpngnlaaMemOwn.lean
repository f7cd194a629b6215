/- The walk of MemOwn. -/
import Derived.Test.YtfochgpjpngnlaaMemOwnP
namespace Go.Proofs.Ytfochgpjpngnlaa
open Go.RowKit
set_option linter.unusedVariables false
set_option maxHeartbeats 2000000 in
set_option maxRecDepth 100000 in
theorem own_big (ba : Option Addr) (bl bc : Nat) (la : Option Addr) (ll lc : Nat) (at_ k x : Value) (w : World) (hb : bl ≤ 9223372036854775807) (hl : ll ≤ 9223372036854775807) (h : 3000 < bl ∨ 50 < ll) :
    Calls Try.prog 4 #[.slice ba bl bc, .slice la ll lc, at_, k, x] w fun e w' => e = .returned (.bool true) ∧ Below w.heap.size w w' := by
  cases t1 : decide ((3000 : Int) < (bl : Int))
  case true =>
    clear h
    go_enter Try.func4, Try.ntmps4
    go_wp2_with fail
    refine (known_any w).mono ?_
    rintro e w1 ⟨rfl, hb⟩
    have B1 := Lib.hid hb
    clear hb
    go_wp2_with fail
    go_ret
    exact ⟨rfl, B1.out⟩
  case false =>
    have t2 : decide ((50 : Int) < (ll : Int)) = true := by have := of_decide_eq_false t1; simp; omega
    clear h
    go_enter Try.func4, Try.ntmps4
    go_wp2_with fail
    refine (known_any w).mono ?_
    rintro e w1 ⟨rfl, hb⟩
    have B1 := Lib.hid hb
    clear hb
    go_wp2_with fail
    go_ret
    exact ⟨rfl, B1.out⟩
set_option maxHeartbeats 8000000 in
set_option maxRecDepth 100000 in
theorem own_any (ba : Option Addr) (bl bc : Nat) (X : Nat → Nat) (la : Option Addr) (ll lc : Nat) (L : Nat → Reg) (at_ k x : Nat) (w : World) (hbl : bl ≤ 3000) (hll : ll ≤ 50) (hX : SliceAt w ba bl (bV X)) (hXl : ∀ i, X i < 256) (hL : RegsAt w la ll L) (h1 : at_ < 4294967296) (h2 : k < 256) (h3 : x < 4294967296) :
    Calls Try.prog 4 #[.slice ba bl bc, .slice la ll lc, .int .u32 (at_ : Int), .int .u8 (k : Int), .int .u32 (x : Int)] w fun e w' => e = .returned (.bool true) ∧ Below w.heap.size w w' := by
  have t1 : decide ((3000 : Int) < (bl : Int)) = false := by simp; omega
  have t2 : decide ((50 : Int) < (ll : Int)) = false := by simp; omega
  have HX := Lib.hid hX; have HXl := Lib.hid hXl; have HL := Lib.hid hL
  clear hX hXl hL
  go_enter Try.func4, Try.ntmps4
  go_wp2_with fail
  refine (known_any w).mono ?_
  rintro e w1 ⟨rfl, hb⟩
  have B1 := Lib.hid hb
  clear hb
  go_wp2_with fail
  refine (new_ok bl w1 (by omega)).mono ?_
  rintro e w2 ⟨M, rfl, hm⟩
  have N := Lib.hid hm
  have B2 : Hid (Below w.heap.size w w2) := B1.out.trans (hm.below.mono B1.out.size)
  have HBb : Hid (0 < M.n → w.heap.size ≤ M.b) := fun h => Nat.le_trans B1.out.size (hm.b (by rw [← hm.eN]; exact h))
  clear hm
  have hp0 : partE bl 0 bl = 0 := by unfold partE; split <;> first | rfl | (rw [if_neg (by omega)])
  have hm0 : partM bl 0 bl = bl := by unfold partM; rw [if_neg (by omega)]
  go_wp2_with fail
  have HPUT := put_any M 0 ba bl bc X w2 N.out.mem (by omega) (by omega) (HX.out.below B2.out) HXl.out
  rw [N.out.eN, hp0, hm0] at HPUT
  refine (show Calls Try.prog 13 #[.pointer (some ⟨M.g, 0, none⟩), .int .u32 0, .slice ba bl bc] w2 _ from HPUT).mono ?_
  clear HPUT
  rintro e w3 ⟨rfl, hm, ho⟩
  obtain ⟨M1, hM1⟩ : ∃ x, x = M.put 0 bl X := ⟨_, rfl⟩
  rw [← hM1] at hm
  have HG : Hid (M1.g = M.g) := by show _ = _; rw [hM1]; rfl
  have HN : Hid (M1.n = bl) := by show _ = _; rw [hM1]; exact N.out.eN
  have HB : Hid (∀ i, i < bl → M1.B i = X i) := fun i hi => by
    rw [hM1]
    show (if 0 ≤ i ∧ i < 0 + bl then X (i - 0) else M.B i) = X i
    rw [if_pos (by omega)]; rfl
  have HBb1 : Hid (0 < M1.n → w.heap.size ≤ M1.b) := fun h => by rw [hM1] at h ⊢; exact HBb.out h
  have M3 := Lib.hid hm
  have B3 : Hid (Below w.heap.size w w3) := only_below ho B2.out B2.out.size HBb.out
  clear hm ho hM1 hp0 hm0 HBb
  go_wp2_with fail
  have HST := store_g M.g M1 HG.out bl HN.out M1.B rfl la ll lc L at_ k w3 M3.out (HL.out.below B3.out) (by omega) h1 h2 x h3 _ _ rfl rfl
  obtain ⟨E, hE⟩ : ∃ e, e = mayE bl L ll at_ k 2 := ⟨_, rfl⟩
  obtain ⟨m, hm⟩ : ∃ e, e = mayM bl L ll at_ k 2 := ⟨_, rfl⟩
  rw [← hE, ← hm] at HST
  refine HST.mono ?_
  clear HST
  rintro e w4 ⟨rfl, hM, ho⟩
  obtain ⟨M2, hM2⟩ : ∃ x', x' = M1.put at_ m (stB x) := ⟨_, rfl⟩
  rw [← hM2] at hM
  have HG2 : Hid (M2.g = M.g) := by show _ = _; rw [hM2]; exact HG.out
  have HN2 : Hid (M2.n = bl) := by show _ = _; rw [hM2]; exact HN.out
  have HB2 : Hid (M2.B = fun j => if at_ ≤ j ∧ j < at_ + m then stB x (j - at_) else M1.B j) := by show _ = _; rw [hM2]; rfl
  have HE := Lib.hid hE; have HM := Lib.hid hm
  have M4 := Lib.hid hM
  have B4 : Hid (Below w.heap.size w w4) := only_below ho B3.out B3.out.size HBb1.out
  clear hM ho hM2 hE hm HBb1 M3
  go_wp2_with fail
  have hp0 : partE bl 0 bl = 0 := by unfold partE; split <;> first | rfl | (rw [if_neg (by omega)])
  have hm0 : partM bl 0 bl = bl := by unfold partM; rw [if_neg (by omega)]
  refine (show Calls Try.prog 15 #[.pointer (some ⟨M.g, 0, none⟩), .int .u32 0, .int .u32 (bl : Int)] w4 _ from get_g M.g M2 HG2.out bl HN2.out M2.B rfl 0 bl w4 M4.out (by omega) (by omega) 0 bl hm0 hp0).mono ?_
  rintro e w5 ⟨v, rfl, ⟨⟨vb, hs, -⟩, hb⟩⟩
  obtain ⟨va, vc, rfl, -, -, hs⟩ := hs.slice
  have NOW : Hid (SliceAt w5 va bl (bV M2.B)) := hs.congr fun i hi => by show Value.int .u8 ((M2.B (0 + i) : Nat) : Int) = Value.int .u8 ((M2.B i : Nat) : Int); rw [Nat.zero_add]
  have B5 : Hid (Below w.heap.size w w5) := B4.out.trans (hb.mono B4.out.size)
  have M5 : Hid (MemAt w5 57 M2) := M4.out.below hb
  clear hs hb hp0 hm0 M4
  have u1 : ((bl : Int) == (bl : Int)) = true := by simp
  have u2 : ((bl : Int) != (bl : Int)) = false := by simp
  go_wp2_with fail
  refine (show Calls Try.prog 24 #[.slice la ll lc, .int .u32 (at_ : Int), .int .u32 (k : Int), .int .u8 2] w5 _ from find_any la ll lc L at_ k 2 w5 (HL.out.below B5.out) (by omega) h1 (by omega) (by omega)).mono ?_
  rintro e w6 ⟨rfl, hb⟩
  have B6 : Hid (Below w.heap.size w w6) := B5.out.trans (hb.mono B5.out.size)
  have M6 : Hid (MemAt w6 57 M2) := M5.out.below hb
  have NOW6 : Hid (SliceAt w6 va bl (bV M2.B)) := NOW.out.below hb
  clear hb M5 NOW
  unfold findV
  by_cases hE0 : E = 0
  case neg =>
    have hpos := mayE_pos (N := bl) (L := L) (l := ll) (at_ := at_) (k := k) (right := 2) (by rw [← HE.out]; exact hE0)
    have hm0 : m = 0 := HM.out.trans hpos.2
    have e1 : (E == 0) = false := by simpa using hE0
    have e2 : (E != 0) = true := by simpa using hE0
    by_cases ck : k ≠ 1 ∧ k ≠ 2 ∧ k ≠ 4
    · have s1 : ((k : Int) == 1) = false := by simp; omega
      have s2 : ((k : Int) == 2) = false := by simp; omega
      have s4 : ((k : Int) == 4) = false := by simp; omega
      clear ck hpos hE0
      generalize (found L ll at_ k 2).isSome = fs
      generalize (found L ll at_ k 2).getD 0 = fi
      skip
      go_wp2_with fail
      go_loopw [108] (fun i wr => ∃ j : Nat, j ≤ bl ∧ i = .int .i64 j ∧ Below w6.heap.size w6 wr) (fun i _ => bl - (intOf i).toNat)
      case atStart => exact ⟨0, Nat.zero_le _, rfl, Below.refl _ _⟩
      case round =>
        obtain ⟨j, hj, rfl, hy⟩ := hrel
        have Y := Lib.hid hy
        clear hy
        have hj0 : (0 : Int) ≤ (j : Int) := by omega
        by_cases hlt : j < bl
        · have hji : (j : Int) < (bl : Int) := by omega
          obtain ⟨b1, o1, rfl, l1, x1⟩ := NOW6.out.at (show 0 < bl by omega)
          obtain ⟨b2, o2, rfl, l2, x2⟩ := HX.out.at (show 0 < bl by omega)
          have c1 : wr.cell? ⟨b1, o1 + j, none⟩ = some (.int .u8 ((M2.B j : Nat) : Int)) := by rw [Y.out.cell l1]; exact x1 j hlt
          have c2 : wr.cell? ⟨b2, o2 + j, none⟩ = some (.int .u8 ((X j : Nat) : Int)) := by rw [(B6.out.trans (Y.out.mono B6.out.size)).cell l2]; exact x2 j hlt
          clear x1 x2
          have hz : M2.B j = X j := by rw [HB2.out]; show (if at_ ≤ j ∧ j < at_ + m then _ else _) = _; rw [if_neg (by omega)]; exact HB.out j hlt
          rw [hz] at c1
          clear hz
          have q0 : (((X j : Nat) : Int) == ((X j : Nat) : Int)) = true := by simp
          have q0' : (((X j : Nat) : Int) != ((X j : Nat) : Int)) = false := by simp
          generalize ((X j : Nat) : Int) = xj at *
          go_wp2_with fail
          go_quiet (fail)
          go_wp2_with fail
          go_roundw
          case rel => exact ⟨j + 1, by omega, by go_num, ⟨Y.out.os, Y.out.tape, Y.out.output, Y.out.size, Y.out.block⟩⟩
          case measure => simp [intOf]; omega
        · obtain rfl : j = bl := by omega
          go_wp2_with fail
          refine (load_g M.g M2 HG2.out j HN2.out M2.B rfl la ll lc L at_ k wr (M6.out.below Y.out) (HL.out.below (B6.out.trans (Y.out.mono B6.out.size))) (by omega) h1 h2 _ _ rfl rfl).mono ?_
          rintro e w7 ⟨rfl, hb⟩
          have B7 : Hid (Below w.heap.size w w7) := B6.out.trans ((Y.out.trans (hb.mono Y.out.size)).mono B6.out.size)
          clear hb
          generalize mayE j L ll at_ k 1 = F
          generalize ((leN M2.B at_ (mayM j L ll at_ k 1) : Nat) : Int) = V
          go_wp2_with fail
          go_ret
          exact ⟨rfl, B7.out⟩
    have hnb : ¬ mayBad k 2 := fun h => ck ⟨h.1, h.2.1, h.2.2.1⟩
    have hno := hpos.1.resolve_left hnb
    clear hpos hE0 hnb
    by_cases c1 : k = 1
    · have s1 : ((k : Int) == 1) = true := by simp; omega
      clear c1 ck
      by_cases hf : (found L ll at_ k 2).isSome = true
      · have hgt : ¬ (at_ + k ≤ bl) := fun h => hno ⟨hf, h⟩
        have t3 : decide (at_ + k ≤ bl) = false := decide_eq_false hgt
        have t3' : decide ((at_ : Int) + (k : Int) ≤ (bl : Int)) = false := by simp; omega
        rw [hf]
        clear hno hgt hf
        generalize (found L ll at_ k 2).getD 0 = fi
        skip
        go_wp2_with fail
        go_loopw [108] (fun i wr => ∃ j : Nat, j ≤ bl ∧ i = .int .i64 j ∧ Below w6.heap.size w6 wr) (fun i _ => bl - (intOf i).toNat)
        case atStart => exact ⟨0, Nat.zero_le _, rfl, Below.refl _ _⟩
        case round =>
          obtain ⟨j, hj, rfl, hy⟩ := hrel
          have Y := Lib.hid hy
          clear hy
          have hj0 : (0 : Int) ≤ (j : Int) := by omega
          by_cases hlt : j < bl
          · have hji : (j : Int) < (bl : Int) := by omega
            obtain ⟨b1, o1, rfl, l1, x1⟩ := NOW6.out.at (show 0 < bl by omega)
            obtain ⟨b2, o2, rfl, l2, x2⟩ := HX.out.at (show 0 < bl by omega)
            have c1 : wr.cell? ⟨b1, o1 + j, none⟩ = some (.int .u8 ((M2.B j : Nat) : Int)) := by rw [Y.out.cell l1]; exact x1 j hlt
            have c2 : wr.cell? ⟨b2, o2 + j, none⟩ = some (.int .u8 ((X j : Nat) : Int)) := by rw [(B6.out.trans (Y.out.mono B6.out.size)).cell l2]; exact x2 j hlt
            clear x1 x2
            have hz : M2.B j = X j := by rw [HB2.out]; show (if at_ ≤ j ∧ j < at_ + m then _ else _) = _; rw [if_neg (by omega)]; exact HB.out j hlt
            rw [hz] at c1
            clear hz
            have q0 : (((X j : Nat) : Int) == ((X j : Nat) : Int)) = true := by simp
            have q0' : (((X j : Nat) : Int) != ((X j : Nat) : Int)) = false := by simp
            generalize ((X j : Nat) : Int) = xj at *
            go_wp2_with fail
            go_quiet (fail)
            go_wp2_with fail
            go_roundw
            case rel => exact ⟨j + 1, by omega, by go_num, ⟨Y.out.os, Y.out.tape, Y.out.output, Y.out.size, Y.out.block⟩⟩
            case measure => simp [intOf]; omega
          · obtain rfl : j = bl := by omega
            go_wp2_with fail
            refine (load_g M.g M2 HG2.out j HN2.out M2.B rfl la ll lc L at_ k wr (M6.out.below Y.out) (HL.out.below (B6.out.trans (Y.out.mono B6.out.size))) (by omega) h1 h2 _ _ rfl rfl).mono ?_
            rintro e w7 ⟨rfl, hb⟩
            have B7 : Hid (Below w.heap.size w w7) := B6.out.trans ((Y.out.trans (hb.mono Y.out.size)).mono B6.out.size)
            clear hb
            generalize mayE j L ll at_ k 1 = F
            generalize ((leN M2.B at_ (mayM j L ll at_ k 1) : Nat) : Int) = V
            go_wp2_with fail
            go_ret
            exact ⟨rfl, B7.out⟩
      · have hf' : (found L ll at_ k 2).isSome = false := by simpa using hf
        rw [hf']
        clear hno hf hf'
        generalize (found L ll at_ k 2).getD 0 = fi
        skip
        go_wp2_with fail
        go_loopw [108] (fun i wr => ∃ j : Nat, j ≤ bl ∧ i = .int .i64 j ∧ Below w6.heap.size w6 wr) (fun i _ => bl - (intOf i).toNat)
        case atStart => exact ⟨0, Nat.zero_le _, rfl, Below.refl _ _⟩
        case round =>
          obtain ⟨j, hj, rfl, hy⟩ := hrel
          have Y := Lib.hid hy
          clear hy
          have hj0 : (0 : Int) ≤ (j : Int) := by omega
          by_cases hlt : j < bl
          · have hji : (j : Int) < (bl : Int) := by omega
            obtain ⟨b1, o1, rfl, l1, x1⟩ := NOW6.out.at (show 0 < bl by omega)
            obtain ⟨b2, o2, rfl, l2, x2⟩ := HX.out.at (show 0 < bl by omega)
            have c1 : wr.cell? ⟨b1, o1 + j, none⟩ = some (.int .u8 ((M2.B j : Nat) : Int)) := by rw [Y.out.cell l1]; exact x1 j hlt
            have c2 : wr.cell? ⟨b2, o2 + j, none⟩ = some (.int .u8 ((X j : Nat) : Int)) := by rw [(B6.out.trans (Y.out.mono B6.out.size)).cell l2]; exact x2 j hlt
            clear x1 x2
            have hz : M2.B j = X j := by rw [HB2.out]; show (if at_ ≤ j ∧ j < at_ + m then _ else _) = _; rw [if_neg (by omega)]; exact HB.out j hlt
            rw [hz] at c1
            clear hz
            have q0 : (((X j : Nat) : Int) == ((X j : Nat) : Int)) = true := by simp
            have q0' : (((X j : Nat) : Int) != ((X j : Nat) : Int)) = false := by simp
            generalize ((X j : Nat) : Int) = xj at *
            go_wp2_with fail
            go_quiet (fail)
            go_wp2_with fail
            go_roundw
            case rel => exact ⟨j + 1, by omega, by go_num, ⟨Y.out.os, Y.out.tape, Y.out.output, Y.out.size, Y.out.block⟩⟩
            case measure => simp [intOf]; omega
          · obtain rfl : j = bl := by omega
            go_wp2_with fail
            refine (load_g M.g M2 HG2.out j HN2.out M2.B rfl la ll lc L at_ k wr (M6.out.below Y.out) (HL.out.below (B6.out.trans (Y.out.mono B6.out.size))) (by omega) h1 h2 _ _ rfl rfl).mono ?_
            rintro e w7 ⟨rfl, hb⟩
            have B7 : Hid (Below w.heap.size w w7) := B6.out.trans ((Y.out.trans (hb.mono Y.out.size)).mono B6.out.size)
            clear hb
            generalize mayE j L ll at_ k 1 = F
            generalize ((leN M2.B at_ (mayM j L ll at_ k 1) : Nat) : Int) = V
            go_wp2_with fail
            go_ret
            exact ⟨rfl, B7.out⟩
    have s1 : ((k : Int) == 1) = false := by simp; omega
    by_cases c2 : k = 2
    · have s2 : ((k : Int) == 2) = true := by simp; omega
      clear c1 c2 ck
      by_cases hf : (found L ll at_ k 2).isSome = true
      · have hgt : ¬ (at_ + k ≤ bl) := fun h => hno ⟨hf, h⟩
        have t3 : decide (at_ + k ≤ bl) = false := decide_eq_false hgt
        have t3' : decide ((at_ : Int) + (k : Int) ≤ (bl : Int)) = false := by simp; omega
        rw [hf]
        clear hno hgt hf
        generalize (found L ll at_ k 2).getD 0 = fi
        skip
        go_wp2_with fail
        go_loopw [108] (fun i wr => ∃ j : Nat, j ≤ bl ∧ i = .int .i64 j ∧ Below w6.heap.size w6 wr) (fun i _ => bl - (intOf i).toNat)
        case atStart => exact ⟨0, Nat.zero_le _, rfl, Below.refl _ _⟩
        case round =>
          obtain ⟨j, hj, rfl, hy⟩ := hrel
          have Y := Lib.hid hy
          clear hy
          have hj0 : (0 : Int) ≤ (j : Int) := by omega
          by_cases hlt : j < bl
          · have hji : (j : Int) < (bl : Int) := by omega
            obtain ⟨b1, o1, rfl, l1, x1⟩ := NOW6.out.at (show 0 < bl by omega)
            obtain ⟨b2, o2, rfl, l2, x2⟩ := HX.out.at (show 0 < bl by omega)
            have c1 : wr.cell? ⟨b1, o1 + j, none⟩ = some (.int .u8 ((M2.B j : Nat) : Int)) := by rw [Y.out.cell l1]; exact x1 j hlt
            have c2 : wr.cell? ⟨b2, o2 + j, none⟩ = some (.int .u8 ((X j : Nat) : Int)) := by rw [(B6.out.trans (Y.out.mono B6.out.size)).cell l2]; exact x2 j hlt
            clear x1 x2
            have hz : M2.B j = X j := by rw [HB2.out]; show (if at_ ≤ j ∧ j < at_ + m then _ else _) = _; rw [if_neg (by omega)]; exact HB.out j hlt
            rw [hz] at c1
            clear hz
            have q0 : (((X j : Nat) : Int) == ((X j : Nat) : Int)) = true := by simp
            have q0' : (((X j : Nat) : Int) != ((X j : Nat) : Int)) = false := by simp
            generalize ((X j : Nat) : Int) = xj at *
            go_wp2_with fail
            go_quiet (fail)
            go_wp2_with fail
            go_roundw
            case rel => exact ⟨j + 1, by omega, by go_num, ⟨Y.out.os, Y.out.tape, Y.out.output, Y.out.size, Y.out.block⟩⟩
            case measure => simp [intOf]; omega
          · obtain rfl : j = bl := by omega
            go_wp2_with fail
            refine (load_g M.g M2 HG2.out j HN2.out M2.B rfl la ll lc L at_ k wr (M6.out.below Y.out) (HL.out.below (B6.out.trans (Y.out.mono B6.out.size))) (by omega) h1 h2 _ _ rfl rfl).mono ?_
            rintro e w7 ⟨rfl, hb⟩
            have B7 : Hid (Below w.heap.size w w7) := B6.out.trans ((Y.out.trans (hb.mono Y.out.size)).mono B6.out.size)
            clear hb
            generalize mayE j L ll at_ k 1 = F
            generalize ((leN M2.B at_ (mayM j L ll at_ k 1) : Nat) : Int) = V
            go_wp2_with fail
            go_ret
            exact ⟨rfl, B7.out⟩
      · have hf' : (found L ll at_ k 2).isSome = false := by simpa using hf
        rw [hf']
        clear hno hf hf'
        generalize (found L ll at_ k 2).getD 0 = fi
        skip
        go_wp2_with fail
        go_loopw [108] (fun i wr => ∃ j : Nat, j ≤ bl ∧ i = .int .i64 j ∧ Below w6.heap.size w6 wr) (fun i _ => bl - (intOf i).toNat)
        case atStart => exact ⟨0, Nat.zero_le _, rfl, Below.refl _ _⟩
        case round =>
          obtain ⟨j, hj, rfl, hy⟩ := hrel
          have Y := Lib.hid hy
          clear hy
          have hj0 : (0 : Int) ≤ (j : Int) := by omega
          by_cases hlt : j < bl
          · have hji : (j : Int) < (bl : Int) := by omega
            obtain ⟨b1, o1, rfl, l1, x1⟩ := NOW6.out.at (show 0 < bl by omega)
            obtain ⟨b2, o2, rfl, l2, x2⟩ := HX.out.at (show 0 < bl by omega)
            have c1 : wr.cell? ⟨b1, o1 + j, none⟩ = some (.int .u8 ((M2.B j : Nat) : Int)) := by rw [Y.out.cell l1]; exact x1 j hlt
            have c2 : wr.cell? ⟨b2, o2 + j, none⟩ = some (.int .u8 ((X j : Nat) : Int)) := by rw [(B6.out.trans (Y.out.mono B6.out.size)).cell l2]; exact x2 j hlt
            clear x1 x2
            have hz : M2.B j = X j := by rw [HB2.out]; show (if at_ ≤ j ∧ j < at_ + m then _ else _) = _; rw [if_neg (by omega)]; exact HB.out j hlt
            rw [hz] at c1
            clear hz
            have q0 : (((X j : Nat) : Int) == ((X j : Nat) : Int)) = true := by simp
            have q0' : (((X j : Nat) : Int) != ((X j : Nat) : Int)) = false := by simp
            generalize ((X j : Nat) : Int) = xj at *
            go_wp2_with fail
            go_quiet (fail)
            go_wp2_with fail
            go_roundw
            case rel => exact ⟨j + 1, by omega, by go_num, ⟨Y.out.os, Y.out.tape, Y.out.output, Y.out.size, Y.out.block⟩⟩
            case measure => simp [intOf]; omega
          · obtain rfl : j = bl := by omega
            go_wp2_with fail
            refine (load_g M.g M2 HG2.out j HN2.out M2.B rfl la ll lc L at_ k wr (M6.out.below Y.out) (HL.out.below (B6.out.trans (Y.out.mono B6.out.size))) (by omega) h1 h2 _ _ rfl rfl).mono ?_
            rintro e w7 ⟨rfl, hb⟩
            have B7 : Hid (Below w.heap.size w w7) := B6.out.trans ((Y.out.trans (hb.mono Y.out.size)).mono B6.out.size)
            clear hb
            generalize mayE j L ll at_ k 1 = F
            generalize ((leN M2.B at_ (mayM j L ll at_ k 1) : Nat) : Int) = V
            go_wp2_with fail
            go_ret
            exact ⟨rfl, B7.out⟩
    have s2 : ((k : Int) == 2) = false := by simp; omega
    have s4 : ((k : Int) == 4) = true := by simp; omega
    clear c1 c2 ck
    by_cases hf : (found L ll at_ k 2).isSome = true
    · have hgt : ¬ (at_ + k ≤ bl) := fun h => hno ⟨hf, h⟩
      have t3 : decide (at_ + k ≤ bl) = false := decide_eq_false hgt
      have t3' : decide ((at_ : Int) + (k : Int) ≤ (bl : Int)) = false := by simp; omega
      rw [hf]
      clear hno hgt hf
      generalize (found L ll at_ k 2).getD 0 = fi
      skip
      go_wp2_with fail
      go_loopw [108] (fun i wr => ∃ j : Nat, j ≤ bl ∧ i = .int .i64 j ∧ Below w6.heap.size w6 wr) (fun i _ => bl - (intOf i).toNat)
      case atStart => exact ⟨0, Nat.zero_le _, rfl, Below.refl _ _⟩
      case round =>
        obtain ⟨j, hj, rfl, hy⟩ := hrel
        have Y := Lib.hid hy
        clear hy
        have hj0 : (0 : Int) ≤ (j : Int) := by omega
        by_cases hlt : j < bl
        · have hji : (j : Int) < (bl : Int) := by omega
          obtain ⟨b1, o1, rfl, l1, x1⟩ := NOW6.out.at (show 0 < bl by omega)
          obtain ⟨b2, o2, rfl, l2, x2⟩ := HX.out.at (show 0 < bl by omega)
          have c1 : wr.cell? ⟨b1, o1 + j, none⟩ = some (.int .u8 ((M2.B j : Nat) : Int)) := by rw [Y.out.cell l1]; exact x1 j hlt
          have c2 : wr.cell? ⟨b2, o2 + j, none⟩ = some (.int .u8 ((X j : Nat) : Int)) := by rw [(B6.out.trans (Y.out.mono B6.out.size)).cell l2]; exact x2 j hlt
          clear x1 x2
          have hz : M2.B j = X j := by rw [HB2.out]; show (if at_ ≤ j ∧ j < at_ + m then _ else _) = _; rw [if_neg (by omega)]; exact HB.out j hlt
          rw [hz] at c1
          clear hz
          have q0 : (((X j : Nat) : Int) == ((X j : Nat) : Int)) = true := by simp
          have q0' : (((X j : Nat) : Int) != ((X j : Nat) : Int)) = false := by simp
          generalize ((X j : Nat) : Int) = xj at *
          go_wp2_with fail
          go_quiet (fail)
          go_wp2_with fail
          go_roundw
          case rel => exact ⟨j + 1, by omega, by go_num, ⟨Y.out.os, Y.out.tape, Y.out.output, Y.out.size, Y.out.block⟩⟩
          case measure => simp [intOf]; omega
        · obtain rfl : j = bl := by omega
          go_wp2_with fail
          refine (load_g M.g M2 HG2.out j HN2.out M2.B rfl la ll lc L at_ k wr (M6.out.below Y.out) (HL.out.below (B6.out.trans (Y.out.mono B6.out.size))) (by omega) h1 h2 _ _ rfl rfl).mono ?_
          rintro e w7 ⟨rfl, hb⟩
          have B7 : Hid (Below w.heap.size w w7) := B6.out.trans ((Y.out.trans (hb.mono Y.out.size)).mono B6.out.size)
          clear hb
          generalize mayE j L ll at_ k 1 = F
          generalize ((leN M2.B at_ (mayM j L ll at_ k 1) : Nat) : Int) = V
          go_wp2_with fail
          go_ret
          exact ⟨rfl, B7.out⟩
    · have hf' : (found L ll at_ k 2).isSome = false := by simpa using hf
      rw [hf']
      clear hno hf hf'
      generalize (found L ll at_ k 2).getD 0 = fi
      skip
      go_wp2_with fail
      go_loopw [108] (fun i wr => ∃ j : Nat, j ≤ bl ∧ i = .int .i64 j ∧ Below w6.heap.size w6 wr) (fun i _ => bl - (intOf i).toNat)
      case atStart => exact ⟨0, Nat.zero_le _, rfl, Below.refl _ _⟩
      case round =>
        obtain ⟨j, hj, rfl, hy⟩ := hrel
        have Y := Lib.hid hy
        clear hy
        have hj0 : (0 : Int) ≤ (j : Int) := by omega
        by_cases hlt : j < bl
        · have hji : (j : Int) < (bl : Int) := by omega
          obtain ⟨b1, o1, rfl, l1, x1⟩ := NOW6.out.at (show 0 < bl by omega)
          obtain ⟨b2, o2, rfl, l2, x2⟩ := HX.out.at (show 0 < bl by omega)
          have c1 : wr.cell? ⟨b1, o1 + j, none⟩ = some (.int .u8 ((M2.B j : Nat) : Int)) := by rw [Y.out.cell l1]; exact x1 j hlt
          have c2 : wr.cell? ⟨b2, o2 + j, none⟩ = some (.int .u8 ((X j : Nat) : Int)) := by rw [(B6.out.trans (Y.out.mono B6.out.size)).cell l2]; exact x2 j hlt
          clear x1 x2
          have hz : M2.B j = X j := by rw [HB2.out]; show (if at_ ≤ j ∧ j < at_ + m then _ else _) = _; rw [if_neg (by omega)]; exact HB.out j hlt
          rw [hz] at c1
          clear hz
          have q0 : (((X j : Nat) : Int) == ((X j : Nat) : Int)) = true := by simp
          have q0' : (((X j : Nat) : Int) != ((X j : Nat) : Int)) = false := by simp
          generalize ((X j : Nat) : Int) = xj at *
          go_wp2_with fail
          go_quiet (fail)
          go_wp2_with fail
          go_roundw
          case rel => exact ⟨j + 1, by omega, by go_num, ⟨Y.out.os, Y.out.tape, Y.out.output, Y.out.size, Y.out.block⟩⟩
          case measure => simp [intOf]; omega
        · obtain rfl : j = bl := by omega
          go_wp2_with fail
          refine (load_g M.g M2 HG2.out j HN2.out M2.B rfl la ll lc L at_ k wr (M6.out.below Y.out) (HL.out.below (B6.out.trans (Y.out.mono B6.out.size))) (by omega) h1 h2 _ _ rfl rfl).mono ?_
          rintro e w7 ⟨rfl, hb⟩
          have B7 : Hid (Below w.heap.size w w7) := B6.out.trans ((Y.out.trans (hb.mono Y.out.size)).mono B6.out.size)
          clear hb
          generalize mayE j L ll at_ k 1 = F
          generalize ((leN M2.B at_ (mayM j L ll at_ k 1) : Nat) : Int) = V
          go_wp2_with fail
          go_ret
          exact ⟨rfl, B7.out⟩
  case pos =>
    subst hE0
    obtain ⟨hnb, hf, hfit, hmk⟩ := mayE_zero HE.out.symm
    have hm0 : m = k := HM.out.trans hmk
    subst hm0
    rw [hf]
    clear hf hmk HE
    generalize (found L ll at_ m 2).getD 0 = fi
    by_cases c1 : m = 1
    · subst c1
      have t3 : decide (at_ + 1 ≤ bl) = true := decide_eq_true hfit
      have t3' : decide ((at_ : Int) + 1 ≤ (bl : Int)) = true := by simp; omega
      clear HM
      go_wp2_with fail
      go_loopw [108] (fun i wr => ∃ j : Nat, j ≤ bl ∧ i = .int .i64 j ∧ Below w6.heap.size w6 wr) (fun i _ => bl - (intOf i).toNat)
      case atStart => exact ⟨0, Nat.zero_le _, rfl, Below.refl _ _⟩
      case round =>
        obtain ⟨j, hj, rfl, hy⟩ := hrel
        have Y := Lib.hid hy
        clear hy
        have hj0 : (0 : Int) ≤ (j : Int) := by omega
        by_cases hlt : j < bl
        · have hji : (j : Int) < (bl : Int) := by omega
          obtain ⟨b1, o1, rfl, l1, x1⟩ := NOW6.out.at (show 0 < bl by omega)
          obtain ⟨b2, o2, rfl, l2, x2⟩ := HX.out.at (show 0 < bl by omega)
          have c1 : wr.cell? ⟨b1, o1 + j, none⟩ = some (.int .u8 ((M2.B j : Nat) : Int)) := by rw [Y.out.cell l1]; exact x1 j hlt
          have c2 : wr.cell? ⟨b2, o2 + j, none⟩ = some (.int .u8 ((X j : Nat) : Int)) := by rw [(B6.out.trans (Y.out.mono B6.out.size)).cell l2]; exact x2 j hlt
          clear x1 x2
          by_cases g1 : at_ ≤ j
          · have g1' : decide (at_ ≤ j) = true := decide_eq_true g1
            have g1'' : decide ((at_ : Int) ≤ (j : Int)) = true := by simp; omega
            by_cases g2 : j < at_ + 1
            · have g2' : decide (j < at_ + 1) = true := decide_eq_true g2
              have g2'' : decide ((j : Int) < (at_ : Int) + 1) = true := by simp; omega
              obtain ⟨d, rfl⟩ : ∃ d, j = at_ + d := ⟨j - at_, by omega⟩
              have hd4 : d < 4 := by omega
              have g3 : decide (d < 1) = true := decide_eq_true (by omega)
              have g3' : decide ((d : Int) < 1) = true := by simp; omega
              have hz : M2.B (at_ + d) = stB x d := by rw [HB2.out]; show (if at_ ≤ at_ + d ∧ at_ + d < at_ + 1 then stB x (at_ + d - at_) else _) = _; rw [if_pos (by omega), show at_ + d - at_ = d by omega]
              rw [hz] at c1
              clear hz
              have hst := stB_cast x d
              have hsl := Nat.mod_lt (x / 256 ^ d) (show 0 < 256 by omega)
              have q0 : (((stB x d : Nat) : Int) == ((stB x d : Nat) : Int)) = true := by simp
              have q0' : (((stB x d : Nat) : Int) != ((stB x d : Nat) : Int)) = false := by simp
              generalize ((X (at_ + d) : Nat) : Int) = xj at *
              go_wp2_with fail
              go_quiet (fail)
              go_wp2_with fail
              go_roundw
              case rel => exact ⟨at_ + d + 1, by omega, by go_num, ⟨Y.out.os, Y.out.tape, Y.out.output, Y.out.size, Y.out.block⟩⟩
              case measure => simp [intOf]; omega
            · have g2' : decide (j < at_ + 1) = false := decide_eq_false g2
              have g2'' : decide ((j : Int) < (at_ : Int) + 1) = false := by simp; omega
              have hz : M2.B j = X j := by rw [HB2.out]; show (if at_ ≤ j ∧ j < at_ + 1 then _ else _) = _; rw [if_neg (by omega)]; exact HB.out j hlt
              rw [hz] at c1
              clear hz
              have q0 : (((X j : Nat) : Int) == ((X j : Nat) : Int)) = true := by simp
              have q0' : (((X j : Nat) : Int) != ((X j : Nat) : Int)) = false := by simp
              generalize ((X j : Nat) : Int) = xj at *
              go_wp2_with fail
              go_quiet (fail)
              go_wp2_with fail
              go_roundw
              case rel => exact ⟨j + 1, by omega, by go_num, ⟨Y.out.os, Y.out.tape, Y.out.output, Y.out.size, Y.out.block⟩⟩
              case measure => simp [intOf]; omega
          · have g1' : decide (at_ ≤ j) = false := decide_eq_false g1
            have g1'' : decide ((at_ : Int) ≤ (j : Int)) = false := by simp; omega
            have hz : M2.B j = X j := by rw [HB2.out]; show (if at_ ≤ j ∧ j < at_ + 1 then _ else _) = _; rw [if_neg (by omega)]; exact HB.out j hlt
            rw [hz] at c1
            clear hz
            have q0 : (((X j : Nat) : Int) == ((X j : Nat) : Int)) = true := by simp
            have q0' : (((X j : Nat) : Int) != ((X j : Nat) : Int)) = false := by simp
            generalize ((X j : Nat) : Int) = xj at *
            go_wp2_with fail
            go_quiet (fail)
            go_wp2_with fail
            go_roundw
            case rel => exact ⟨j + 1, by omega, by go_num, ⟨Y.out.os, Y.out.tape, Y.out.output, Y.out.size, Y.out.block⟩⟩
            case measure => simp [intOf]; omega
        · obtain rfl : j = bl := by omega
          go_wp2_with fail
          obtain ⟨F, hF⟩ : ∃ e, mayE j L ll at_ 1 1 = e := ⟨_, rfl⟩
          obtain ⟨V, hV⟩ : ∃ e, leN M2.B at_ (mayM j L ll at_ 1 1) = e := ⟨_, rfl⟩
          refine (show Calls Try.prog 17 #[.pointer (some ⟨M.g, 0, none⟩), .slice la ll lc, .int .u32 (at_ : Int), .int .u8 1] wr _ from load_g M.g M2 HG2.out j HN2.out M2.B rfl la ll lc L at_ 1 wr (M6.out.below Y.out) (HL.out.below (B6.out.trans (Y.out.mono B6.out.size))) (by omega) h1 h2 V F hV hF).mono ?_
          rintro e w7 ⟨rfl, hb⟩
          have B7 : Hid (Below w.heap.size w w7) := B6.out.trans ((Y.out.trans (hb.mono Y.out.size)).mono B6.out.size)
          clear hb
          by_cases hF0 : F = 0
          · subst hF0
            have hme := (mayE_zero hF).2.2.2
            have hval : V = x % 256 ^ 1 := by
              rw [← hV, hme, ← leN_stB x at_ 1]
              refine leN_congr _ fun i hi => ?_
              rw [HB2.out]
              show (if at_ ≤ at_ + i ∧ at_ + i < at_ + 1 then stB x (at_ + i - at_) else _) = _
              rw [if_pos (by omega)]
            have hmask : bits .and .u32 (x : Int) 255 = ((x % 256 ^ 1 : Nat) : Int) := mask_and x 1 h3 (by omega)
            subst hval
            clear hV hF hme
            have q1 : (((x % 256 ^ 1 : Nat) : Int) == ((x % 256 ^ 1 : Nat) : Int)) = true := by simp
            have hxl : x % 256 ^ 1 < 4294967296 := Nat.lt_of_le_of_lt (Nat.mod_le _ _) h3
            generalize x % 256 ^ 1 = z at *
            go_wp2_with fail
            go_ret
            exact ⟨rfl, B7.out⟩
          · have f1 : (F == 0) = false := by simpa using hF0
            have f2 : (F != 0) = true := by simpa using hF0
            clear hF hV hF0
            go_wp2_with fail
            go_ret
            exact ⟨rfl, B7.out⟩
    by_cases c2 : m = 2
    · subst c2
      have t3 : decide (at_ + 2 ≤ bl) = true := decide_eq_true hfit
      have t3' : decide ((at_ : Int) + 2 ≤ (bl : Int)) = true := by simp; omega
      clear HM
      go_wp2_with fail
      go_loopw [108] (fun i wr => ∃ j : Nat, j ≤ bl ∧ i = .int .i64 j ∧ Below w6.heap.size w6 wr) (fun i _ => bl - (intOf i).toNat)
      case atStart => exact ⟨0, Nat.zero_le _, rfl, Below.refl _ _⟩
      case round =>
        obtain ⟨j, hj, rfl, hy⟩ := hrel
        have Y := Lib.hid hy
        clear hy
        have hj0 : (0 : Int) ≤ (j : Int) := by omega
        by_cases hlt : j < bl
        · have hji : (j : Int) < (bl : Int) := by omega
          obtain ⟨b1, o1, rfl, l1, x1⟩ := NOW6.out.at (show 0 < bl by omega)
          obtain ⟨b2, o2, rfl, l2, x2⟩ := HX.out.at (show 0 < bl by omega)
          have c1 : wr.cell? ⟨b1, o1 + j, none⟩ = some (.int .u8 ((M2.B j : Nat) : Int)) := by rw [Y.out.cell l1]; exact x1 j hlt
          have c2 : wr.cell? ⟨b2, o2 + j, none⟩ = some (.int .u8 ((X j : Nat) : Int)) := by rw [(B6.out.trans (Y.out.mono B6.out.size)).cell l2]; exact x2 j hlt
          clear x1 x2
          by_cases g1 : at_ ≤ j
          · have g1' : decide (at_ ≤ j) = true := decide_eq_true g1
            have g1'' : decide ((at_ : Int) ≤ (j : Int)) = true := by simp; omega
            by_cases g2 : j < at_ + 2
            · have g2' : decide (j < at_ + 2) = true := decide_eq_true g2
              have g2'' : decide ((j : Int) < (at_ : Int) + 2) = true := by simp; omega
              obtain ⟨d, rfl⟩ : ∃ d, j = at_ + d := ⟨j - at_, by omega⟩
              have hd4 : d < 4 := by omega
              have g3 : decide (d < 2) = true := decide_eq_true (by omega)
              have g3' : decide ((d : Int) < 2) = true := by simp; omega
              have hz : M2.B (at_ + d) = stB x d := by rw [HB2.out]; show (if at_ ≤ at_ + d ∧ at_ + d < at_ + 2 then stB x (at_ + d - at_) else _) = _; rw [if_pos (by omega), show at_ + d - at_ = d by omega]
              rw [hz] at c1
              clear hz
              have hst := stB_cast x d
              have hsl := Nat.mod_lt (x / 256 ^ d) (show 0 < 256 by omega)
              have q0 : (((stB x d : Nat) : Int) == ((stB x d : Nat) : Int)) = true := by simp
              have q0' : (((stB x d : Nat) : Int) != ((stB x d : Nat) : Int)) = false := by simp
              generalize ((X (at_ + d) : Nat) : Int) = xj at *
              go_wp2_with fail
              go_quiet (fail)
              go_wp2_with fail
              go_roundw
              case rel => exact ⟨at_ + d + 1, by omega, by go_num, ⟨Y.out.os, Y.out.tape, Y.out.output, Y.out.size, Y.out.block⟩⟩
              case measure => simp [intOf]; omega
            · have g2' : decide (j < at_ + 2) = false := decide_eq_false g2
              have g2'' : decide ((j : Int) < (at_ : Int) + 2) = false := by simp; omega
              have hz : M2.B j = X j := by rw [HB2.out]; show (if at_ ≤ j ∧ j < at_ + 2 then _ else _) = _; rw [if_neg (by omega)]; exact HB.out j hlt
              rw [hz] at c1
              clear hz
              have q0 : (((X j : Nat) : Int) == ((X j : Nat) : Int)) = true := by simp
              have q0' : (((X j : Nat) : Int) != ((X j : Nat) : Int)) = false := by simp
              generalize ((X j : Nat) : Int) = xj at *
              go_wp2_with fail
              go_quiet (fail)
              go_wp2_with fail
              go_roundw
              case rel => exact ⟨j + 1, by omega, by go_num, ⟨Y.out.os, Y.out.tape, Y.out.output, Y.out.size, Y.out.block⟩⟩
              case measure => simp [intOf]; omega
          · have g1' : decide (at_ ≤ j) = false := decide_eq_false g1
            have g1'' : decide ((at_ : Int) ≤ (j : Int)) = false := by simp; omega
            have hz : M2.B j = X j := by rw [HB2.out]; show (if at_ ≤ j ∧ j < at_ + 2 then _ else _) = _; rw [if_neg (by omega)]; exact HB.out j hlt
            rw [hz] at c1
            clear hz
            have q0 : (((X j : Nat) : Int) == ((X j : Nat) : Int)) = true := by simp
            have q0' : (((X j : Nat) : Int) != ((X j : Nat) : Int)) = false := by simp
            generalize ((X j : Nat) : Int) = xj at *
            go_wp2_with fail
            go_quiet (fail)
            go_wp2_with fail
            go_roundw
            case rel => exact ⟨j + 1, by omega, by go_num, ⟨Y.out.os, Y.out.tape, Y.out.output, Y.out.size, Y.out.block⟩⟩
            case measure => simp [intOf]; omega
        · obtain rfl : j = bl := by omega
          go_wp2_with fail
          obtain ⟨F, hF⟩ : ∃ e, mayE j L ll at_ 2 1 = e := ⟨_, rfl⟩
          obtain ⟨V, hV⟩ : ∃ e, leN M2.B at_ (mayM j L ll at_ 2 1) = e := ⟨_, rfl⟩
          refine (show Calls Try.prog 17 #[.pointer (some ⟨M.g, 0, none⟩), .slice la ll lc, .int .u32 (at_ : Int), .int .u8 2] wr _ from load_g M.g M2 HG2.out j HN2.out M2.B rfl la ll lc L at_ 2 wr (M6.out.below Y.out) (HL.out.below (B6.out.trans (Y.out.mono B6.out.size))) (by omega) h1 h2 V F hV hF).mono ?_
          rintro e w7 ⟨rfl, hb⟩
          have B7 : Hid (Below w.heap.size w w7) := B6.out.trans ((Y.out.trans (hb.mono Y.out.size)).mono B6.out.size)
          clear hb
          by_cases hF0 : F = 0
          · subst hF0
            have hme := (mayE_zero hF).2.2.2
            have hval : V = x % 256 ^ 2 := by
              rw [← hV, hme, ← leN_stB x at_ 2]
              refine leN_congr _ fun i hi => ?_
              rw [HB2.out]
              show (if at_ ≤ at_ + i ∧ at_ + i < at_ + 2 then stB x (at_ + i - at_) else _) = _
              rw [if_pos (by omega)]
            have hmask : bits .and .u32 (x : Int) 65535 = ((x % 256 ^ 2 : Nat) : Int) := mask_and x 2 h3 (by omega)
            subst hval
            clear hV hF hme
            have q1 : (((x % 256 ^ 2 : Nat) : Int) == ((x % 256 ^ 2 : Nat) : Int)) = true := by simp
            have hxl : x % 256 ^ 2 < 4294967296 := Nat.lt_of_le_of_lt (Nat.mod_le _ _) h3
            generalize x % 256 ^ 2 = z at *
            go_wp2_with fail
            go_ret
            exact ⟨rfl, B7.out⟩
          · have f1 : (F == 0) = false := by simpa using hF0
            have f2 : (F != 0) = true := by simpa using hF0
            clear hF hV hF0
            go_wp2_with fail
            go_ret
            exact ⟨rfl, B7.out⟩
    have c4 : m = 4 := by unfold mayBad at hnb; omega
    subst c4
    have t3 : decide (at_ + 4 ≤ bl) = true := decide_eq_true hfit
    have t3' : decide ((at_ : Int) + 4 ≤ (bl : Int)) = true := by simp; omega
    clear HM
    go_wp2_with fail
    go_loopw [108] (fun i wr => ∃ j : Nat, j ≤ bl ∧ i = .int .i64 j ∧ Below w6.heap.size w6 wr) (fun i _ => bl - (intOf i).toNat)
    case atStart => exact ⟨0, Nat.zero_le _, rfl, Below.refl _ _⟩
    case round =>
      obtain ⟨j, hj, rfl, hy⟩ := hrel
      have Y := Lib.hid hy
      clear hy
      have hj0 : (0 : Int) ≤ (j : Int) := by omega
      by_cases hlt : j < bl
      · have hji : (j : Int) < (bl : Int) := by omega
        obtain ⟨b1, o1, rfl, l1, x1⟩ := NOW6.out.at (show 0 < bl by omega)
        obtain ⟨b2, o2, rfl, l2, x2⟩ := HX.out.at (show 0 < bl by omega)
        have c1 : wr.cell? ⟨b1, o1 + j, none⟩ = some (.int .u8 ((M2.B j : Nat) : Int)) := by rw [Y.out.cell l1]; exact x1 j hlt
        have c2 : wr.cell? ⟨b2, o2 + j, none⟩ = some (.int .u8 ((X j : Nat) : Int)) := by rw [(B6.out.trans (Y.out.mono B6.out.size)).cell l2]; exact x2 j hlt
        clear x1 x2
        by_cases g1 : at_ ≤ j
        · have g1' : decide (at_ ≤ j) = true := decide_eq_true g1
          have g1'' : decide ((at_ : Int) ≤ (j : Int)) = true := by simp; omega
          by_cases g2 : j < at_ + 4
          · have g2' : decide (j < at_ + 4) = true := decide_eq_true g2
            have g2'' : decide ((j : Int) < (at_ : Int) + 4) = true := by simp; omega
            obtain ⟨d, rfl⟩ : ∃ d, j = at_ + d := ⟨j - at_, by omega⟩
            have hd4 : d < 4 := by omega
            have g3 : decide (d < 4) = true := decide_eq_true (by omega)
            have g3' : decide ((d : Int) < 4) = true := by simp; omega
            have hz : M2.B (at_ + d) = stB x d := by rw [HB2.out]; show (if at_ ≤ at_ + d ∧ at_ + d < at_ + 4 then stB x (at_ + d - at_) else _) = _; rw [if_pos (by omega), show at_ + d - at_ = d by omega]
            rw [hz] at c1
            clear hz
            have hst := stB_cast x d
            have hsl := Nat.mod_lt (x / 256 ^ d) (show 0 < 256 by omega)
            have q0 : (((stB x d : Nat) : Int) == ((stB x d : Nat) : Int)) = true := by simp
            have q0' : (((stB x d : Nat) : Int) != ((stB x d : Nat) : Int)) = false := by simp
            generalize ((X (at_ + d) : Nat) : Int) = xj at *
            go_wp2_with fail
            go_quiet (fail)
            go_wp2_with fail
            go_roundw
            case rel => exact ⟨at_ + d + 1, by omega, by go_num, ⟨Y.out.os, Y.out.tape, Y.out.output, Y.out.size, Y.out.block⟩⟩
            case measure => simp [intOf]; omega
          · have g2' : decide (j < at_ + 4) = false := decide_eq_false g2
            have g2'' : decide ((j : Int) < (at_ : Int) + 4) = false := by simp; omega
            have hz : M2.B j = X j := by rw [HB2.out]; show (if at_ ≤ j ∧ j < at_ + 4 then _ else _) = _; rw [if_neg (by omega)]; exact HB.out j hlt
            rw [hz] at c1
            clear hz
            have q0 : (((X j : Nat) : Int) == ((X j : Nat) : Int)) = true := by simp
            have q0' : (((X j : Nat) : Int) != ((X j : Nat) : Int)) = false := by simp
            generalize ((X j : Nat) : Int) = xj at *
            go_wp2_with fail
            go_quiet (fail)
            go_wp2_with fail
            go_roundw
            case rel => exact ⟨j + 1, by omega, by go_num, ⟨Y.out.os, Y.out.tape, Y.out.output, Y.out.size, Y.out.block⟩⟩
            case measure => simp [intOf]; omega
        · have g1' : decide (at_ ≤ j) = false := decide_eq_false g1
          have g1'' : decide ((at_ : Int) ≤ (j : Int)) = false := by simp; omega
          have hz : M2.B j = X j := by rw [HB2.out]; show (if at_ ≤ j ∧ j < at_ + 4 then _ else _) = _; rw [if_neg (by omega)]; exact HB.out j hlt
          rw [hz] at c1
          clear hz
          have q0 : (((X j : Nat) : Int) == ((X j : Nat) : Int)) = true := by simp
          have q0' : (((X j : Nat) : Int) != ((X j : Nat) : Int)) = false := by simp
          generalize ((X j : Nat) : Int) = xj at *
          go_wp2_with fail
          go_quiet (fail)
          go_wp2_with fail
          go_roundw
          case rel => exact ⟨j + 1, by omega, by go_num, ⟨Y.out.os, Y.out.tape, Y.out.output, Y.out.size, Y.out.block⟩⟩
          case measure => simp [intOf]; omega
      · obtain rfl : j = bl := by omega
        go_wp2_with fail
        obtain ⟨F, hF⟩ : ∃ e, mayE j L ll at_ 4 1 = e := ⟨_, rfl⟩
        obtain ⟨V, hV⟩ : ∃ e, leN M2.B at_ (mayM j L ll at_ 4 1) = e := ⟨_, rfl⟩
        refine (show Calls Try.prog 17 #[.pointer (some ⟨M.g, 0, none⟩), .slice la ll lc, .int .u32 (at_ : Int), .int .u8 4] wr _ from load_g M.g M2 HG2.out j HN2.out M2.B rfl la ll lc L at_ 4 wr (M6.out.below Y.out) (HL.out.below (B6.out.trans (Y.out.mono B6.out.size))) (by omega) h1 h2 V F hV hF).mono ?_
        rintro e w7 ⟨rfl, hb⟩
        have B7 : Hid (Below w.heap.size w w7) := B6.out.trans ((Y.out.trans (hb.mono Y.out.size)).mono B6.out.size)
        clear hb
        by_cases hF0 : F = 0
        · subst hF0
          have hme := (mayE_zero hF).2.2.2
          have hval : V = x % 256 ^ 4 := by
            rw [← hV, hme, ← leN_stB x at_ 4]
            refine leN_congr _ fun i hi => ?_
            rw [HB2.out]
            show (if at_ ≤ at_ + i ∧ at_ + i < at_ + 4 then stB x (at_ + i - at_) else _) = _
            rw [if_pos (by omega)]
          have hmask : bits .and .u32 (x : Int) 4294967295 = ((x % 256 ^ 4 : Nat) : Int) := mask_and x 4 h3 (by omega)
          subst hval
          clear hV hF hme
          have q1 : (((x % 256 ^ 4 : Nat) : Int) == ((x % 256 ^ 4 : Nat) : Int)) = true := by simp
          have hxl : x % 256 ^ 4 < 4294967296 := Nat.lt_of_le_of_lt (Nat.mod_le _ _) h3
          generalize x % 256 ^ 4 = z at *
          go_wp2_with fail
          go_ret
          exact ⟨rfl, B7.out⟩
        · have f1 : (F == 0) = false := by simpa using hF0
          have f2 : (F != 0) = true := by simpa using hF0
          clear hF hV hF0
          go_wp2_with fail
          go_ret
          exact ⟨rfl, B7.out⟩
end Go.Proofs.Ytfochgpjpngnlaa
