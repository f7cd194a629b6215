/- The walk of MemWords. -/
import Derived.Test.YtfochgpjpngnlaaMemStr
namespace Go.Proofs.Ytfochgpjpngnlaa
open Go.RowKit
set_option linter.unusedVariables false
set_option maxHeartbeats 2000000 in
set_option maxRecDepth 100000 in
theorem words_big (ba : Option Addr) (bl bc : Nat) (la : Option Addr) (ll lc : Nat) (at_ : Value) (w : World) (hb : bl ≤ 9223372036854775807) (hl : ll ≤ 9223372036854775807) (h : 3000 < bl ∨ 50 < ll) :
    Calls Try.prog 5 #[.slice ba bl bc, .slice la ll lc, at_] w fun e w' => e = .returned (.bool true) ∧ Below w.heap.size w w' := by
  cases t1 : decide ((3000 : Int) < (bl : Int))
  case true =>
    clear h
    go_enter Try.func5, Try.ntmps5
    go_wp2_with fail
    refine (known_any w).mono ?_
    rintro e w1 ⟨rfl, hb⟩
    have B1 := Lib.hid hb
    clear hb
    go_wp2_with fail
    go_ret
    exact ⟨rfl, B1.out⟩
  case false =>
    have t2 : decide ((50 : Int) < (ll : Int)) = true := by have := of_decide_eq_false t1; simp; omega
    clear h
    go_enter Try.func5, Try.ntmps5
    go_wp2_with fail
    refine (known_any w).mono ?_
    rintro e w1 ⟨rfl, hb⟩
    have B1 := Lib.hid hb
    clear hb
    go_wp2_with fail
    go_ret
    exact ⟨rfl, B1.out⟩
set_option maxHeartbeats 8000000 in
set_option maxRecDepth 100000 in
theorem words_any (ba : Option Addr) (bl bc : Nat) (X : Nat → Nat) (la : Option Addr) (ll lc : Nat) (L : Nat → Reg) (at_ : Nat) (w : World) (hbl : bl ≤ 3000) (hbc : bl ≤ bc) (hll : ll ≤ 50) (hX : SliceAt w ba bl (bV X)) (hXl : ∀ i, X i < 256) (hL : RegsAt w la ll L) (h1 : at_ < 4294967296) :
    Calls Try.prog 5 #[.slice ba bl bc, .slice la ll lc, .int .u32 (at_ : Int)] w fun e w' => e = .returned (.bool true) ∧ Below w.heap.size w w' := by
  have t1 : decide ((3000 : Int) < (bl : Int)) = false := by simp; omega
  have t2 : decide ((50 : Int) < (ll : Int)) = false := by simp; omega
  have HX := Lib.hid hX; have HXl := Lib.hid hXl; have HL := Lib.hid hL
  clear hX hXl hL
  go_enter Try.func5, Try.ntmps5
  go_wp2_with fail
  refine (known_any w).mono ?_
  rintro e w1 ⟨rfl, hb⟩
  have B1 := Lib.hid hb
  clear hb
  go_wp2_with fail
  refine (new_ok bl w1 (by omega)).mono ?_
  rintro e w2 ⟨M, rfl, hm⟩
  have N := Lib.hid hm
  have B2 : Hid (Below w.heap.size w w2) := B1.out.trans (hm.below.mono B1.out.size)
  have HBb : Hid (0 < M.n → w.heap.size ≤ M.b) := fun h => Nat.le_trans B1.out.size (hm.b (by rw [← hm.eN]; exact h))
  clear hm
  have hp0 : partE bl 0 bl = 0 := by unfold partE; split <;> first | rfl | (rw [if_neg (by omega)])
  have hm0 : partM bl 0 bl = bl := by unfold partM; rw [if_neg (by omega)]
  go_wp2_with fail
  have HPUT := put_any M 0 ba bl bc X w2 N.out.mem (by omega) (by omega) (HX.out.below B2.out) HXl.out
  rw [N.out.eN, hp0, hm0] at HPUT
  refine (show Calls Try.prog 13 #[.pointer (some ⟨M.g, 0, none⟩), .int .u32 0, .slice ba bl bc] w2 _ from HPUT).mono ?_
  clear HPUT
  rintro e w3 ⟨rfl, hm, ho⟩
  obtain ⟨M1, hM1⟩ : ∃ x, x = M.put 0 bl X := ⟨_, rfl⟩
  rw [← hM1] at hm
  have HG : Hid (M1.g = M.g) := by show _ = _; rw [hM1]; rfl
  have HN : Hid (M1.n = bl) := by show _ = _; rw [hM1]; exact N.out.eN
  have HB : Hid (∀ i, i < bl → M1.B i = X i) := fun i hi => by
    rw [hM1]
    show (if 0 ≤ i ∧ i < 0 + bl then X (i - 0) else M.B i) = X i
    rw [if_pos (by omega)]; rfl
  have HBb1 : Hid (0 < M1.n → w.heap.size ≤ M1.b) := fun h => by rw [hM1] at h ⊢; exact HBb.out h
  have M3 := Lib.hid hm
  have B3 : Hid (Below w.heap.size w w3) := only_below ho B2.out B2.out.size HBb.out
  clear hm ho hM1 hp0 hm0 HBb
  go_wp2_with fail
  have B4 : Hid (Below w.heap.size w (w3.alloc (.cells #[.int .u8 4, .int .u8 2] 5))) := B3.out.alloc B3.out.size _
  have M4 : Hid (MemAt (w3.alloc (.cells #[.int .u8 4, .int .u8 2] 5)) 57 M1) := M3.out.below ((Below.refl _ w3).alloc (Nat.le_refl _) _)
  have N4 : Hid ((w3.alloc (.cells #[.int .u8 4, .int .u8 2] 5)).heap[w3.heap.size]? = some (.cells #[.int .u8 4, .int .u8 2] 5 (0, 0))) := heap_alloc_new _ _
  generalize w3.alloc (.cells #[.int .u8 4, .int .u8 2] 5) = w4 at *
  generalize hnb : w3.heap.size = nb at *
  clear hnb
  have HNB := Lib.hid (heap_lt N4.out)
  go_loopw [47] (fun i wr => (i = .int .i64 0 ∨ i = .int .i64 1 ∨ i = .int .i64 2) ∧ Below w4.heap.size w4 wr) (fun i _ => 2 - (intOf i).toNat)
  case atStart => exact ⟨.inl rfl, Below.refl _ _⟩
  case round =>
    obtain ⟨hi, hy⟩ := hrel
    have Y := Lib.hid hy
    clear hy
    have MR : Hid (MemAt wr 57 M1) := M4.out.below Y.out
    have BR : Hid (Below w.heap.size w wr) := B4.out.trans (Y.out.mono B4.out.size)
    have NR : Hid (wr.heap[nb]? = _) := (Y.out.block _ HNB.out).trans N4.out
    have n0 : wr.cell? ⟨nb, 0, none⟩ = some (.int .u8 4) := cell_row NR.out rfl
    have n1 : wr.cell? ⟨nb, 1, none⟩ = some (.int .u8 2) := cell_row NR.out rfl
    rcases hi with rfl | rfl | rfl
    · skip
      go_wp2_with fail
      obtain ⟨F, hF⟩ : ∃ e, mayE bl L ll at_ 4 1 = e := ⟨_, rfl⟩
      obtain ⟨V, hV⟩ : ∃ e, leN M1.B at_ (mayM bl L ll at_ 4 1) = e := ⟨_, rfl⟩
      refine (show Calls Try.prog 17 #[.pointer (some ⟨M.g, 0, none⟩), .slice la ll lc, .int .u32 (at_ : Int), .int .u8 4] wr _ from load_g M.g M1 HG.out bl HN.out M1.B rfl la ll lc L at_ 4 wr MR.out (HL.out.below BR.out) (by omega) h1 (by omega) V F hV hF).mono ?_
      rintro e w7 ⟨rfl, hb⟩
      have Y7 : Hid (Below w4.heap.size w4 w7) := Y.out.trans (hb.mono Y.out.size)
      have M7 : Hid (MemAt w7 57 M1) := MR.out.below hb
      have B7 : Hid (Below w.heap.size w w7) := BR.out.trans (hb.mono BR.out.size)
      clear hb n0 n1
      by_cases hF0 : F = 0
      case neg =>
        have f1 : (F == 0) = false := by simpa using hF0
        have f2 : (F != 0) = true := by simpa using hF0
        clear hF hV hF0
        go_wp2_with fail
        go_roundw
        case rel => exact ⟨.inr (.inl rfl), Y7.out⟩
        case measure => simp [intOf]
      subst hF0
      obtain ⟨-, hf, hfit, hmm⟩ := mayE_zero hF
      have hlo : (found L ll (at_ + 0) 2 1).isSome = true := found_mono hf (by omega) (by omega)
      have hhi : (found L ll (at_ + 2) 2 1).isSome = true := found_mono hf (by omega) (by omega)
      rw [Nat.add_zero] at hlo
      have hbd : ¬ mayBad 2 1 := by unfold mayBad; omega
      have e1 : mayE bl L ll at_ 2 1 = 0 := by unfold mayE; rw [if_neg hbd, if_pos ⟨hlo, by omega⟩]
      have e2 : mayM bl L ll at_ 2 1 = 2 := by unfold mayM; rw [if_neg hbd, if_pos ⟨hlo, by omega⟩]
      have e3 : mayE bl L ll (at_ + 2) 2 1 = 0 := by unfold mayE; rw [if_neg hbd, if_pos ⟨hhi, by omega⟩]
      have e4 : mayM bl L ll (at_ + 2) 2 1 = 2 := by unfold mayM; rw [if_neg hbd, if_pos ⟨hhi, by omega⟩]
      have hvv : V = leN M1.B at_ (2 + 2) := by rw [← hV, hmm]
      have HOR : bits .or .u32 ((leN M1.B at_ 2 : Nat) : Int) (((leN M1.B (at_ + 2) 2 : Nat) : Int) * 65536 % 4294967296) = (V : Int) := by
        have h := or_half M1.B M3.out.lt at_ 2 (by omega)
        rw [show (2 : Int) ^ (8 * 2) = 65536 by decide] at h
        rw [hvv]; exact h
      have hlo4 : leN M1.B at_ 2 < 4294967296 := Nat.lt_of_lt_of_le (leN_lt M3.out.lt at_ 2) (by decide)
      have hhi4 : leN M1.B (at_ + 2) 2 < 4294967296 := Nat.lt_of_lt_of_le (leN_lt M3.out.lt (at_ + 2) 2) (by decide)
      have hat : (at_ : Int) + 2 < 4294967296 := by omega
      clear hV hvv hF hf hmm hlo hhi hbd
      go_wp2_with fail
      refine (show Calls Try.prog 17 #[.pointer (some ⟨M.g, 0, none⟩), .slice la ll lc, .int .u32 (at_ : Int), .int .u8 2] w7 _ from load_g M.g M1 HG.out bl HN.out M1.B rfl la ll lc L at_ 2 w7 M7.out (HL.out.below B7.out) (by omega) h1 (by omega) _ 0 (by rw [e2]) e1).mono ?_
      rintro e w8 ⟨rfl, hb⟩
      have Y8 : Hid (Below w4.heap.size w4 w8) := Y7.out.trans (hb.mono Y7.out.size)
      have M8 : Hid (MemAt w8 57 M1) := M7.out.below hb
      have B8 : Hid (Below w.heap.size w w8) := B7.out.trans (hb.mono B7.out.size)
      clear hb
      generalize leN M1.B at_ 2 = xlo at *
      go_wp2_with fail
      refine (show Calls Try.prog 17 #[.pointer (some ⟨M.g, 0, none⟩), .slice la ll lc, .int .u32 ((at_ : Int) + 2), .int .u8 2] w8 _ from load_g M.g M1 HG.out bl HN.out M1.B rfl la ll lc L (at_ + 2) 2 w8 M8.out (HL.out.below B8.out) (by omega) (by omega) (by omega) _ 0 (by rw [e4]) e3).mono ?_
      rintro e w9 ⟨rfl, hb⟩
      have Y9 : Hid (Below w4.heap.size w4 w9) := Y8.out.trans (hb.mono Y8.out.size)
      clear hb e1 e2 e3 e4
      generalize leN M1.B (at_ + 2) 2 = xhi at *
      have q1 : ((V : Int) == (V : Int)) = true := by simp
      have q2 : ((V : Int) != (V : Int)) = false := by simp
      go_wp2_with fail
      go_roundw
      case rel => exact ⟨.inr (.inl rfl), Y9.out⟩
      case measure => simp [intOf]
    · skip
      go_wp2_with fail
      obtain ⟨F, hF⟩ : ∃ e, mayE bl L ll at_ 2 1 = e := ⟨_, rfl⟩
      obtain ⟨V, hV⟩ : ∃ e, leN M1.B at_ (mayM bl L ll at_ 2 1) = e := ⟨_, rfl⟩
      refine (show Calls Try.prog 17 #[.pointer (some ⟨M.g, 0, none⟩), .slice la ll lc, .int .u32 (at_ : Int), .int .u8 2] wr _ from load_g M.g M1 HG.out bl HN.out M1.B rfl la ll lc L at_ 2 wr MR.out (HL.out.below BR.out) (by omega) h1 (by omega) V F hV hF).mono ?_
      rintro e w7 ⟨rfl, hb⟩
      have Y7 : Hid (Below w4.heap.size w4 w7) := Y.out.trans (hb.mono Y.out.size)
      have M7 : Hid (MemAt w7 57 M1) := MR.out.below hb
      have B7 : Hid (Below w.heap.size w w7) := BR.out.trans (hb.mono BR.out.size)
      clear hb n0 n1
      by_cases hF0 : F = 0
      case neg =>
        have f1 : (F == 0) = false := by simpa using hF0
        have f2 : (F != 0) = true := by simpa using hF0
        clear hF hV hF0
        go_wp2_with fail
        go_roundw
        case rel => exact ⟨.inr (.inr rfl), Y7.out⟩
        case measure => simp [intOf]
      subst hF0
      obtain ⟨-, hf, hfit, hmm⟩ := mayE_zero hF
      have hlo : (found L ll (at_ + 0) 1 1).isSome = true := found_mono hf (by omega) (by omega)
      have hhi : (found L ll (at_ + 1) 1 1).isSome = true := found_mono hf (by omega) (by omega)
      rw [Nat.add_zero] at hlo
      have hbd : ¬ mayBad 1 1 := by unfold mayBad; omega
      have e1 : mayE bl L ll at_ 1 1 = 0 := by unfold mayE; rw [if_neg hbd, if_pos ⟨hlo, by omega⟩]
      have e2 : mayM bl L ll at_ 1 1 = 1 := by unfold mayM; rw [if_neg hbd, if_pos ⟨hlo, by omega⟩]
      have e3 : mayE bl L ll (at_ + 1) 1 1 = 0 := by unfold mayE; rw [if_neg hbd, if_pos ⟨hhi, by omega⟩]
      have e4 : mayM bl L ll (at_ + 1) 1 1 = 1 := by unfold mayM; rw [if_neg hbd, if_pos ⟨hhi, by omega⟩]
      have hvv : V = leN M1.B at_ (1 + 1) := by rw [← hV, hmm]
      have HOR : bits .or .u32 ((leN M1.B at_ 1 : Nat) : Int) (((leN M1.B (at_ + 1) 1 : Nat) : Int) * 256 % 4294967296) = (V : Int) := by
        have h := or_half M1.B M3.out.lt at_ 1 (by omega)
        rw [show (2 : Int) ^ (8 * 1) = 256 by decide] at h
        rw [hvv]; exact h
      have hlo4 : leN M1.B at_ 1 < 4294967296 := Nat.lt_of_lt_of_le (leN_lt M3.out.lt at_ 1) (by decide)
      have hhi4 : leN M1.B (at_ + 1) 1 < 4294967296 := Nat.lt_of_lt_of_le (leN_lt M3.out.lt (at_ + 1) 1) (by decide)
      have hat : (at_ : Int) + 1 < 4294967296 := by omega
      clear hV hvv hF hf hmm hlo hhi hbd
      go_wp2_with fail
      refine (show Calls Try.prog 17 #[.pointer (some ⟨M.g, 0, none⟩), .slice la ll lc, .int .u32 (at_ : Int), .int .u8 1] w7 _ from load_g M.g M1 HG.out bl HN.out M1.B rfl la ll lc L at_ 1 w7 M7.out (HL.out.below B7.out) (by omega) h1 (by omega) _ 0 (by rw [e2]) e1).mono ?_
      rintro e w8 ⟨rfl, hb⟩
      have Y8 : Hid (Below w4.heap.size w4 w8) := Y7.out.trans (hb.mono Y7.out.size)
      have M8 : Hid (MemAt w8 57 M1) := M7.out.below hb
      have B8 : Hid (Below w.heap.size w w8) := B7.out.trans (hb.mono B7.out.size)
      clear hb
      generalize leN M1.B at_ 1 = xlo at *
      go_wp2_with fail
      refine (show Calls Try.prog 17 #[.pointer (some ⟨M.g, 0, none⟩), .slice la ll lc, .int .u32 ((at_ : Int) + 1), .int .u8 1] w8 _ from load_g M.g M1 HG.out bl HN.out M1.B rfl la ll lc L (at_ + 1) 1 w8 M8.out (HL.out.below B8.out) (by omega) (by omega) (by omega) _ 0 (by rw [e4]) e3).mono ?_
      rintro e w9 ⟨rfl, hb⟩
      have Y9 : Hid (Below w4.heap.size w4 w9) := Y8.out.trans (hb.mono Y8.out.size)
      clear hb e1 e2 e3 e4
      generalize leN M1.B (at_ + 1) 1 = xhi at *
      have q1 : ((V : Int) == (V : Int)) = true := by simp
      have q2 : ((V : Int) != (V : Int)) = false := by simp
      go_wp2_with fail
      go_roundw
      case rel => exact ⟨.inr (.inr rfl), Y9.out⟩
      case measure => simp [intOf]
    · clear n0 n1
      go_wp2_with fail
      obtain ⟨F, hF⟩ : ∃ e, mayE bl L ll at_ 8 4 = e := ⟨_, rfl⟩
      obtain ⟨m, hm⟩ : ∃ e, mayM bl L ll at_ 8 4 = e := ⟨_, rfl⟩
      refine (fetch_g M.g M1 HG.out bl HN.out la ll lc L at_ wr MR.out (HL.out.below BR.out) (by omega) h1 F m hm hF).mono ?_
      rintro e w7 ⟨v, rfl, ⟨⟨vb, hs, -⟩, hb⟩⟩
      obtain ⟨va, vc, rfl, -, -, hs⟩ := hs.slice
      have S7 := Lib.hid hs
      have B7 : Hid (Below w.heap.size w w7) := BR.out.trans (hb.mono BR.out.size)
      clear hs hb
      go_wp2_with fail
      refine (show Calls Try.prog 24 #[.slice la ll lc, .int .u32 (at_ : Int), .int .u32 8, .int .u8 4] w7 _ from find_any la ll lc L at_ 8 4 w7 (HL.out.below B7.out) (by omega) h1 (by omega) (by omega)).mono ?_
      rintro e w8 ⟨rfl, hb⟩
      have B8 : Hid (Below w.heap.size w w8) := B7.out.trans (hb.mono B7.out.size)
      have S8 : Hid (SliceAt w8 va m (bV fun i => M1.B (at_ + i))) := S7.out.below hb
      clear hb S7
      unfold findV
      by_cases hF0 : F = 0
      · subst hF0
        obtain ⟨-, hf, hfit, hmm⟩ := mayE_zero hF
        obtain rfl : m = 8 := hm.symm.trans hmm
        have t3 : decide (at_ + 8 ≤ bl) = true := decide_eq_true hfit
        have t3' : decide ((at_ : Int) + 8 ≤ (bl : Int)) = true := by simp; omega
        rw [hf]
        generalize (found L ll at_ 8 4).getD 0 = fi
        have HX8 := Lib.hid (HX.out.below B8.out)
        obtain ⟨xb, xo, rfl, xlt, xc⟩ := HX8.out.at (show 0 < bl by omega)
        have hxs : SliceAt w8 (some ⟨xb, xo + at_, none⟩) 8 (bV fun i => X (at_ + i)) := .inr ⟨xb, xo + at_, rfl, xlt, fun i hi => by rw [Nat.add_assoc]; exact xc (at_ + i) (by omega)⟩
        have heq : strB (fun i => M1.B (at_ + i)) 8 = strB (fun i => X (at_ + i)) 8 := strB_congr fun i hi => HB.out (at_ + i) (by omega)
        obtain ⟨S, hS⟩ : ∃ S, S = strB (fun i => X (at_ + i)) 8 := ⟨_, rfl⟩
        have k1 : ∀ n, (convert 35 9 (.slice va 8 vc)).run Try.prog (w8.drewN n) = .ok (.string S) (w8.drewN n) := fun n => by rw [hS, ← heq]; exact str_at vc (S8.out.below ⟨rfl, rfl, rfl, Nat.le_refl _, fun _ _ => rfl⟩)
        have k2 : ∀ n, (convert 35 9 (.slice (some ⟨xb, xo + at_, none⟩) 8 (bc - at_))).run Try.prog (w8.drewN n) = .ok (.string S) (w8.drewN n) := fun n => by rw [hS]; exact str_at _ (hxs.below ⟨rfl, rfl, rfl, Nat.le_refl _, fun _ _ => rfl⟩)
        have q3 : at_ + 8 - at_ = 8 := by omega
        have q4 : (at_ : Int) ≤ (at_ : Int) + 8 := by omega
        have q5 : (at_ : Int) + 8 ≤ (bc : Int) := by omega
        have q6 : (at_ : Int) + 8 < 4294967296 := by omega
        clear hxs heq hS xc hF hm hmm hf
        go_wp2_with fail
        go_quiet (fail)
        go_wp2_with fail
        go_ret
        exact ⟨rfl, ⟨B8.out.os, B8.out.tape, B8.out.output, B8.out.size, B8.out.block⟩⟩
      · obtain ⟨hno, hz⟩ := mayE_pos (N := bl) (L := L) (l := ll) (at_ := at_) (k := 8) (right := 4) (by rw [hF]; exact hF0)
        rw [hm] at hz
        subst hz
        have hno' := hno.resolve_left (fun h => h.2.2.2 rfl)
        have f1 : (F == 0) = false := by simpa using hF0
        have f2 : (F != 0) = true := by simpa using hF0
        clear hF hm hF0 hno
        by_cases hf : (found L ll at_ 8 4).isSome = true
        · have hgt : ¬ (at_ + 8 ≤ bl) := fun h => hno' ⟨hf, h⟩
          have t3 : decide (at_ + 8 ≤ bl) = false := decide_eq_false hgt
          have t3' : decide ((at_ : Int) + 8 ≤ (bl : Int)) = false := by simp; omega
          rw [hf]
          clear hno' hgt hf
          generalize (found L ll at_ 8 4).getD 0 = fi
          go_wp2_with fail
          go_quiet (fail)
          go_wp2_with fail
          go_ret
          exact ⟨rfl, ⟨B8.out.os, B8.out.tape, B8.out.output, B8.out.size, B8.out.block⟩⟩
        · have hf' : (found L ll at_ 8 4).isSome = false := by simpa using hf
          rw [hf']
          clear hno' hf hf'
          generalize (found L ll at_ 8 4).getD 0 = fi
          go_wp2_with fail
          go_quiet (fail)
          go_wp2_with fail
          go_ret
          exact ⟨rfl, ⟨B8.out.os, B8.out.tape, B8.out.output, B8.out.size, B8.out.block⟩⟩
end Go.Proofs.Ytfochgpjpngnlaa
