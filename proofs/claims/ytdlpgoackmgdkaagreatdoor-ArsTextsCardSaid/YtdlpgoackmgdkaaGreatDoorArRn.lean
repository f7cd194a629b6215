/- The document's number. -/
import Derived.Test.YtdlpgoackmgdkaaGreatDoorArRp
namespace Go.Proofs.YtdlpgoackmgdkaaGreatDoor
open Go.RowKit Go.Shelf
set_option linter.unusedVariables false
set_option linter.unusedSimpArgs false
def runD (l : List UInt8) : List UInt8 := (l.takeWhile isDig).take 11
def numV (most : Nat) (d : List UInt8) : Int := match arN most d with | some n => (n : Int) | none => -1
theorem valD_ge : ∀ (n : Nat) (l : List UInt8) (c : UInt8), l.length = n → (c :: l).all isDig = true → c.toNat ≠ 48 → 10 ^ n ≤ valD (c :: l)
  | 0, l, c, hl, hd, hc => by
    obtain rfl := List.length_eq_zero_iff.1 hl
    exact valD_pos 0 [] c rfl hd hc
  | n + 1, l, c, hl, hd, hc => by
    obtain ⟨l', b, rfl⟩ : ∃ l' b, l = l' ++ [b] := ⟨l.dropLast, l.getLast (by intro h; rw [h] at hl; simp at hl), (List.dropLast_concat_getLast _).symm⟩
    have hl' : l'.length = n := by simpa using hl
    have hd' : (c :: l').all isDig = true := by
      rw [← List.cons_append, List.all_append, Bool.and_eq_true] at hd; exact hd.1
    have := valD_ge n l' c hl' hd' hc
    rw [← List.cons_append, valD_snoc, Nat.pow_succ]; omega
theorem numV_none {most : Nat} {d : List UInt8} (h : arN most d = none) : numV most d = -1 := by unfold numV; rw [h]
theorem numV_nil (most : Nat) : numV most [] = -1 := numV_none (arN_no (.inl rfl))
theorem numV_big {most : Nat} {d : List UInt8} (h : most < valD d) : numV most d = -1 := numV_none (by
  unfold arN
  rw [if_neg]
  rintro ⟨_, _, _, _, h2⟩
  omega)
theorem numV_lead {most : Nat} {d : List UInt8} (h : 1 < d.length ∧ d.head? = some 48) : numV most d = -1 := numV_none (arN_no (.inr (.inr (.inl h))))
theorem numV_ok {most : Nat} {d : List UInt8} (h0 : 0 < d.length) (h1 : d.length ≤ 11) (h2 : d.all isDig = true) (h3 : ¬ (1 < d.length ∧ d.head? = some 48)) (h4 : valD d ≤ most) (hm : most ≤ 4294967295) : numV most d = (valD d : Int) := by
  have h5 : d.length ≤ 10 := by
    apply Nat.le_of_not_lt
    intro h5
    cases d with
    | nil => simp at h0
    | cons c r =>
      have hc : c.toNat ≠ 48 := fun e => h3 ⟨by omega, by
        simp only [List.head?_cons, Option.some.injEq]
        exact UInt8.toNat_inj.1 e⟩
      have h6 := valD_ge r.length r c rfl h2 hc
      have h7 : 10 ^ 10 ≤ 10 ^ r.length := Nat.pow_le_pow_right (by decide) (by simp at h5; omega)
      omega
  unfold numV
  rw [arN_yes (by omega) h5 h3 h2, if_pos h4]
theorem run_end {L : List UInt8} {j : Nat} (h1 : j ≤ L.length) (h2 : j ≤ 11) (h3 : (L.take j).all isDig = true) (h4 : j = L.length ∨ (j < L.length ∧ isDig (L.getD j 0) = false) ∨ j = 11) : runD L = L.take j := by
  unfold runD
  have e : L.takeWhile isDig = L.take j ++ (L.drop j).takeWhile isDig := by
    conv => lhs; rw [← List.take_append_drop j L]
    rw [List.takeWhile_append_of_pos (fun b hb => List.all_eq_true.1 h3 b hb)]
  rw [e]
  have hl : (L.take j).length = j := by rw [List.length_take]; omega
  rcases h4 with h4 | ⟨h4, h5⟩ | h4
  · rw [h4, List.drop_length, List.takeWhile_nil, List.append_nil]
    rw [List.take_of_length_le (by rw [List.length_take]; omega)]
  · rw [List.drop_eq_getElem_cons h4]
    rw [List.getD_eq_getElem?_getD, List.getElem?_eq_getElem h4] at h5
    have h5 : isDig L[j] = false := h5
    rw [List.takeWhile_cons_of_neg (by rw [h5]; decide), List.append_nil, List.take_of_length_le (by omega)]
  · rw [List.take_append_of_le_length (by omega), List.take_of_length_le (by omega)]
theorem runD_of {d : List UInt8} {c : UInt8} {t : List UInt8} (h : ∀ b ∈ d, isDig b = true) (hl : d.length ≤ 11) (hc : isDig c = false) : runD (d ++ c :: t) = d := by
  have := run_end (L := d ++ c :: t) (j := d.length) (by simp) hl (by rw [List.take_left]; exact List.all_eq_true.2 h) (.inr (.inl ⟨by simp, by simp [List.getD_eq_getElem?_getD, hc]⟩))
  rw [this, List.take_left]
theorem runD_len (l : List UInt8) : (runD l).length ≤ 11 ∧ (runD l).length ≤ l.length ∧ l = runD l ++ l.drop (runD l).length := by
  have h1 : (runD l).length ≤ 11 := by unfold runD; rw [List.length_take]; omega
  have hp : runD l <+: l := by
    unfold runD
    exact (List.take_prefix _ _).trans (List.takeWhile_prefix _)
  obtain ⟨t, ht⟩ := hp
  refine ⟨h1, by have := congrArg List.length ht; rw [List.length_append] at this; omega, ?_⟩
  generalize runD l = d at *
  subst ht
  rw [List.drop_left]
theorem valD_take_lt {L : List UInt8} {j : Nat} (hj : j ≤ 11) (h : (L.take j).all isDig = true) : valD (L.take j) < 100000000000 := by
  have H : ∀ (l : List UInt8) (acc : Nat), l.all isDig = true → l.foldl (fun a b => 10 * a + (b.toNat - 48)) acc < (acc + 1) * 10 ^ l.length := by
    intro l
    induction l with
    | nil => intro acc _; simp
    | cons b r ih =>
      intro acc h
      rw [List.all_cons, Bool.and_eq_true] at h
      have hb := dig_lt h.1
      have := ih (10 * acc + (b.toNat - 48)) h.2
      rw [List.foldl_cons, List.length_cons, Nat.pow_succ]
      refine Nat.lt_of_lt_of_le this ?_
      rw [Nat.mul_comm (10 ^ r.length) 10, ← Nat.mul_assoc]
      exact Nat.mul_le_mul_right _ (by omega)
  have h1 := H (L.take j) 0 h
  have h2 : 10 ^ (L.take j).length ≤ 10 ^ 11 := Nat.pow_le_pow_right (by decide) (by rw [List.length_take]; omega)
  unfold valD
  omega
def valJ (L : List UInt8) (j : Nat) : Int := if j = 0 then -1 else (valD (L.take j) : Int)
set_option maxRecDepth 100000 in
set_option maxHeartbeats 8000000 in
theorem rnum_any (s : ByteArray) (p most : Nat) (w : World) (hs : s.size ≤ 1000000) (hp : p ≤ s.size) (hm : most ≤ 4294967295) :
    Calls Tryz.prog 73 #[.string s, .int .i64 (p : Int), .int .i64 (most : Int)] w fun e w' => e = .returned (.tuple #[.int .i64 (numV most (runD (s.data.toList.drop p))), .int .i64 ((p : Int) + ((runD (s.data.toList.drop p)).length : Int))]) ∧ w' = w := by
  obtain ⟨L, hL⟩ : ∃ L, L = s.data.toList.drop p := ⟨_, rfl⟩
  have hLl : L.length = s.size - p := by rw [hL, List.length_drop, size_list]
  rw [← hL]
  have HL := Lib.hid hL
  clear hL
  obtain ⟨R, hR⟩ : ∃ R, R = numV most (runD L) := ⟨_, rfl⟩
  obtain ⟨E, hE⟩ : ∃ E, E = (p : Int) + ((runD L).length : Int) := ⟨_, rfl⟩
  rw [← hR, ← hE]
  have HRR := Lib.hid hR
  have HEE := Lib.hid hE
  clear hR hE
  go_enter Tryz.func73, Tryz.ntmps73
  go_wp2_with fail
  go_loopw [1, 8] (fun at_ nv wr => ∃ j q : Nat, j ≤ 11 ∧ j ≤ L.length ∧ Hid (q = p + j) ∧ at_ = .int .i64 (q : Int) ∧ nv = .int .i64 (valJ L j) ∧ Hid ((L.take j).all isDig = true) ∧ wr = w) (fun at_ _ _ => p + 11 - (intOf at_).toNat)
  case atStart => exact ⟨0, p, by omega, by omega, (by show _ = _; rfl), rfl, rfl, by (show _ = _; rfl), rfl⟩
  case round =>
    obtain ⟨j, q, hj, hjl, HQ, rfl, rfl, HALL, rfl⟩ := hrel
    have hq := HQ.out
    have hq1 : p ≤ q := by omega
    have hq2 : q ≤ 1000100 := by omega
    by_cases h1 : q < s.size
    case neg =>
      have t1 : decide ((q : Int) < (s.size : Int)) = false := decide_eq_false (by omega)
      have HJ := Lib.hid (run_end hjl hj HALL.out (.inl (by omega)))
      have hall := HALL.out
      have hlj : (L.take j).length = j := by rw [List.length_take]; omega
      have HK : Hid (E = (q : Int)) := by show _ = _; rw [HEE.out, HJ.out, hlj]; omega
      by_cases hj0 : j = 0
      case pos =>
        have HF : Hid (R = -1) := by show _ = _; rw [HRR.out, HJ.out, hj0]; exact numV_nil most
        have u1 : decide ((most : Int) < -1) = false := decide_eq_false (by omega)
        have u2 : decide ((1 : Int) < (q : Int) - (p : Int)) = false := decide_eq_false (by omega)
        have e1 : valJ L j = -1 := by rw [hj0]; rfl
        rw [e1]
        clear HALL HJ hall hlj e1 hj0
        clear hq
        go_wp2_with fail
        go_ret2
        refine ⟨?_, rfl⟩
        rw [HF.out, HK.out]
        rfl
      have e1 : valJ L j = (valD (L.take j) : Int) := by unfold valJ; rw [if_neg hj0]
      rw [e1]
      have hvl := valD_take_lt (L := L) (by omega) hall
      by_cases hbig : most < valD (L.take j)
      case pos =>
        have HF : Hid (R = -1) := by show _ = _; rw [HRR.out, HJ.out]; exact numV_big hbig
        have u1 : decide ((most : Int) < ((valD (L.take j) : Nat) : Int)) = true := decide_eq_true (by omega)
        clear HALL HJ hall hlj e1
        generalize valD (L.take j) = V at *
        clear hq
        go_wp2_with fail
        go_ret2
        refine ⟨?_, rfl⟩
        rw [HF.out, HK.out]
        rfl
      have u1 : decide ((most : Int) < ((valD (L.take j) : Nat) : Int)) = false := decide_eq_false (by omega)
      have hix : ∀ W, (Instr.index 9 (.string s) (.int .i64 (p : Int))).run Tryz.prog W = .ok (.int .u8 ((byteN s p : Nat) : Int)) W := fun W => index_str s p (by omega) 9 Tryz.underlying9 W
      have hbh : (L.take j).head? = some (UInt8.ofNat (byteN s p)) := by
        have h0 : 0 < L.length := by omega
        rw [HL.out] at h0 ⊢
        have hpl : p < s.data.toList.length := by rw [size_list]; omega
        rw [List.drop_eq_getElem_cons hpl]
        obtain ⟨j', rfl⟩ : ∃ j', j = j' + 1 := ⟨j - 1, by omega⟩
        rw [List.take_succ_cons, List.head?_cons]
        unfold byteN
        rw [List.getD_eq_getElem?_getD, List.getElem?_eq_getElem hpl]
        simp
      have hb256 : byteN s p < 256 := by unfold byteN; exact UInt8.toNat_lt _
      by_cases h1 : 1 < j
      case pos =>
        have u2 : decide ((1 : Int) < (q : Int) - (p : Int)) = true := decide_eq_true (by omega)
        by_cases h48 : byteN s p = 48
        case pos =>
          have HF : Hid (R = -1) := by show _ = _; rw [HRR.out, HJ.out]; exact numV_lead ⟨by omega, by rw [hbh, h48]; rfl⟩
          have u3 : (((byteN s p : Nat) : Int) == 48) = true := beq_iff_eq.2 (by omega)
          clear HALL HJ hall hlj e1 hbh h48
          generalize valD (L.take j) = V at *
          generalize byteN s p = B at *
          clear hq
          go_wp2_with fail
          go_ret2
          refine ⟨?_, rfl⟩
          rw [HF.out, HK.out]
          rfl
        have HF : Hid (R = (valD (L.take j) : Int)) := by
          show _ = _
          rw [HRR.out, HJ.out]
          refine numV_ok (by omega) (by omega) hall (fun h => h48 ?_) (by omega) (by omega)
          have h := h.2
          rw [hbh] at h
          have := congrArg UInt8.toNat (Option.some.inj h)
          simpa [Nat.mod_eq_of_lt hb256] using this
        have u3 : (((byteN s p : Nat) : Int) == 48) = false := beq_eq_false_iff_ne.2 (by omega)
        clear HALL HJ hall hlj e1 hbh h48
        generalize valD (L.take j) = V at *
        generalize byteN s p = B at *
        clear hq
        go_wp2_with fail
        go_ret2
        refine ⟨?_, rfl⟩
        rw [HF.out, HK.out]
        rfl
      have HF : Hid (R = (valD (L.take j) : Int)) := by
        show _ = _
        rw [HRR.out, HJ.out]
        exact numV_ok (by omega) (by omega) hall (fun h => by omega) (by omega) (by omega)
      have u2 : decide ((1 : Int) < (q : Int) - (p : Int)) = false := decide_eq_false (by omega)
      clear HALL HJ hall hlj e1 hbh hix
      generalize valD (L.take j) = V at *
      generalize byteN s p = B at *
      clear hq
      go_wp2_with fail
      go_ret2
      refine ⟨?_, rfl⟩
      rw [HF.out, HK.out]
      rfl
    have t1 : decide ((q : Int) < (s.size : Int)) = true := decide_eq_true (by omega)
    have hi : ∀ W, (Instr.index 9 (.string s) (.int .i64 (q : Int))).run Tryz.prog W = .ok (.int .u8 ((byteN s q : Nat) : Int)) W := fun W => index_str s q h1 9 Tryz.underlying9 W
    have hjL : j < L.length := by omega
    have hbg : (L.getD j 0).toNat = byteN s q := by
      rw [HL.out]; unfold byteN
      rw [List.getD_eq_getElem?_getD, List.getD_eq_getElem?_getD, List.getElem?_drop, hq]
    have hbl : byteN s q < 256 := by unfold byteN; exact UInt8.toNat_lt _
    have HDG : Hid (isDig (L.getD j 0) = (decide (48 ≤ byteN s q) && decide (byteN s q ≤ 57))) := by show _ = _; unfold isDig; rw [hbg]
    have HST : Hid (isDig (L.getD j 0) = true → (L.take (j + 1)).all isDig = true ∧ valJ L (j + 1) = 10 * (if j = 0 then 0 else valJ L j) + ((byteN s q : Nat) : Int) - 48) := fun h => by
      have e : L.take (j + 1) = L.take j ++ [L.getD j 0] := by
        rw [List.take_succ_eq_append_getElem hjL, List.getD_eq_getElem?_getD, List.getElem?_eq_getElem hjL]; rfl
      have hd : 48 ≤ byteN s q := by rw [HDG.out] at h; simp at h; exact h.1
      refine ⟨by rw [e, List.all_append, HALL.out, List.all_cons, h]; rfl, ?_⟩
      unfold valJ
      rw [if_neg (by omega), e, valD_snoc, hbg]
      by_cases hj0 : j = 0
      · subst hj0
        rw [if_pos rfl]
        have : valD (L.take 0) = 0 := rfl
        rw [this]; omega
      · rw [if_neg hj0, if_neg hj0]; omega
    have HJ1 : Hid (isDig (L.getD j 0) = false → runD L = L.take j) := fun h => run_end hjl hj HALL.out (.inr (.inl ⟨hjL, h⟩))
    have HJ2 : Hid (j = 11 → runD L = L.take j) := fun h => run_end hjl hj HALL.out (.inr (.inr h))
    generalize byteN s q = b at *
    clear hbg
    by_cases h48 : 48 ≤ b
    case neg =>
      have t2 : decide ((48 : Int) ≤ (b : Int)) = false := decide_eq_false (by omega)
      have HJ := Lib.hid (HJ1.out (by rw [HDG.out, decide_eq_false h48]; rfl))
      clear HST HJ1 HJ2 HDG
      have hall := HALL.out
      have hlj : (L.take j).length = j := by rw [List.length_take]; omega
      have HK : Hid (E = (q : Int)) := by show _ = _; rw [HEE.out, HJ.out, hlj]; omega
      by_cases hj0 : j = 0
      case pos =>
        have HF : Hid (R = -1) := by show _ = _; rw [HRR.out, HJ.out, hj0]; exact numV_nil most
        have u1 : decide ((most : Int) < -1) = false := decide_eq_false (by omega)
        have u2 : decide ((1 : Int) < (q : Int) - (p : Int)) = false := decide_eq_false (by omega)
        have e1 : valJ L j = -1 := by rw [hj0]; rfl
        rw [e1]
        clear HALL HJ hall hlj e1 hj0
        clear hq
        go_wp2_with fail
        go_ret2
        refine ⟨?_, rfl⟩
        rw [HF.out, HK.out]
        rfl
      have e1 : valJ L j = (valD (L.take j) : Int) := by unfold valJ; rw [if_neg hj0]
      rw [e1]
      have hvl := valD_take_lt (L := L) (by omega) hall
      by_cases hbig : most < valD (L.take j)
      case pos =>
        have HF : Hid (R = -1) := by show _ = _; rw [HRR.out, HJ.out]; exact numV_big hbig
        have u1 : decide ((most : Int) < ((valD (L.take j) : Nat) : Int)) = true := decide_eq_true (by omega)
        clear HALL HJ hall hlj e1
        generalize valD (L.take j) = V at *
        clear hq
        go_wp2_with fail
        go_ret2
        refine ⟨?_, rfl⟩
        rw [HF.out, HK.out]
        rfl
      have u1 : decide ((most : Int) < ((valD (L.take j) : Nat) : Int)) = false := decide_eq_false (by omega)
      have hix : ∀ W, (Instr.index 9 (.string s) (.int .i64 (p : Int))).run Tryz.prog W = .ok (.int .u8 ((byteN s p : Nat) : Int)) W := fun W => index_str s p (by omega) 9 Tryz.underlying9 W
      have hbh : (L.take j).head? = some (UInt8.ofNat (byteN s p)) := by
        have h0 : 0 < L.length := by omega
        rw [HL.out] at h0 ⊢
        have hpl : p < s.data.toList.length := by rw [size_list]; omega
        rw [List.drop_eq_getElem_cons hpl]
        obtain ⟨j', rfl⟩ : ∃ j', j = j' + 1 := ⟨j - 1, by omega⟩
        rw [List.take_succ_cons, List.head?_cons]
        unfold byteN
        rw [List.getD_eq_getElem?_getD, List.getElem?_eq_getElem hpl]
        simp
      have hb256 : byteN s p < 256 := by unfold byteN; exact UInt8.toNat_lt _
      by_cases h1 : 1 < j
      case pos =>
        have u2 : decide ((1 : Int) < (q : Int) - (p : Int)) = true := decide_eq_true (by omega)
        by_cases h48 : byteN s p = 48
        case pos =>
          have HF : Hid (R = -1) := by show _ = _; rw [HRR.out, HJ.out]; exact numV_lead ⟨by omega, by rw [hbh, h48]; rfl⟩
          have u3 : (((byteN s p : Nat) : Int) == 48) = true := beq_iff_eq.2 (by omega)
          clear HALL HJ hall hlj e1 hbh h48
          generalize valD (L.take j) = V at *
          generalize byteN s p = B at *
          clear hq
          go_wp2_with fail
          go_ret2
          refine ⟨?_, rfl⟩
          rw [HF.out, HK.out]
          rfl
        have HF : Hid (R = (valD (L.take j) : Int)) := by
          show _ = _
          rw [HRR.out, HJ.out]
          refine numV_ok (by omega) (by omega) hall (fun h => h48 ?_) (by omega) (by omega)
          have h := h.2
          rw [hbh] at h
          have := congrArg UInt8.toNat (Option.some.inj h)
          simpa [Nat.mod_eq_of_lt hb256] using this
        have u3 : (((byteN s p : Nat) : Int) == 48) = false := beq_eq_false_iff_ne.2 (by omega)
        clear HALL HJ hall hlj e1 hbh h48
        generalize valD (L.take j) = V at *
        generalize byteN s p = B at *
        clear hq
        go_wp2_with fail
        go_ret2
        refine ⟨?_, rfl⟩
        rw [HF.out, HK.out]
        rfl
      have HF : Hid (R = (valD (L.take j) : Int)) := by
        show _ = _
        rw [HRR.out, HJ.out]
        exact numV_ok (by omega) (by omega) hall (fun h => by omega) (by omega) (by omega)
      have u2 : decide ((1 : Int) < (q : Int) - (p : Int)) = false := decide_eq_false (by omega)
      clear HALL HJ hall hlj e1 hbh hix
      generalize valD (L.take j) = V at *
      generalize byteN s p = B at *
      clear hq
      go_wp2_with fail
      go_ret2
      refine ⟨?_, rfl⟩
      rw [HF.out, HK.out]
      rfl
    have t2 : decide ((48 : Int) ≤ (b : Int)) = true := decide_eq_true (by omega)
    by_cases h57 : b ≤ 57
    case neg =>
      have t3 : decide ((b : Int) ≤ 57) = false := decide_eq_false (by omega)
      have HJ := Lib.hid (HJ1.out (by rw [HDG.out, decide_eq_false h57, Bool.and_false]))
      clear HST HJ1 HJ2 HDG
      have hall := HALL.out
      have hlj : (L.take j).length = j := by rw [List.length_take]; omega
      have HK : Hid (E = (q : Int)) := by show _ = _; rw [HEE.out, HJ.out, hlj]; omega
      by_cases hj0 : j = 0
      case pos =>
        have HF : Hid (R = -1) := by show _ = _; rw [HRR.out, HJ.out, hj0]; exact numV_nil most
        have u1 : decide ((most : Int) < -1) = false := decide_eq_false (by omega)
        have u2 : decide ((1 : Int) < (q : Int) - (p : Int)) = false := decide_eq_false (by omega)
        have e1 : valJ L j = -1 := by rw [hj0]; rfl
        rw [e1]
        clear HALL HJ hall hlj e1 hj0
        clear hq
        go_wp2_with fail
        go_ret2
        refine ⟨?_, rfl⟩
        rw [HF.out, HK.out]
        rfl
      have e1 : valJ L j = (valD (L.take j) : Int) := by unfold valJ; rw [if_neg hj0]
      rw [e1]
      have hvl := valD_take_lt (L := L) (by omega) hall
      by_cases hbig : most < valD (L.take j)
      case pos =>
        have HF : Hid (R = -1) := by show _ = _; rw [HRR.out, HJ.out]; exact numV_big hbig
        have u1 : decide ((most : Int) < ((valD (L.take j) : Nat) : Int)) = true := decide_eq_true (by omega)
        clear HALL HJ hall hlj e1
        generalize valD (L.take j) = V at *
        clear hq
        go_wp2_with fail
        go_ret2
        refine ⟨?_, rfl⟩
        rw [HF.out, HK.out]
        rfl
      have u1 : decide ((most : Int) < ((valD (L.take j) : Nat) : Int)) = false := decide_eq_false (by omega)
      have hix : ∀ W, (Instr.index 9 (.string s) (.int .i64 (p : Int))).run Tryz.prog W = .ok (.int .u8 ((byteN s p : Nat) : Int)) W := fun W => index_str s p (by omega) 9 Tryz.underlying9 W
      have hbh : (L.take j).head? = some (UInt8.ofNat (byteN s p)) := by
        have h0 : 0 < L.length := by omega
        rw [HL.out] at h0 ⊢
        have hpl : p < s.data.toList.length := by rw [size_list]; omega
        rw [List.drop_eq_getElem_cons hpl]
        obtain ⟨j', rfl⟩ : ∃ j', j = j' + 1 := ⟨j - 1, by omega⟩
        rw [List.take_succ_cons, List.head?_cons]
        unfold byteN
        rw [List.getD_eq_getElem?_getD, List.getElem?_eq_getElem hpl]
        simp
      have hb256 : byteN s p < 256 := by unfold byteN; exact UInt8.toNat_lt _
      by_cases h1 : 1 < j
      case pos =>
        have u2 : decide ((1 : Int) < (q : Int) - (p : Int)) = true := decide_eq_true (by omega)
        by_cases h48 : byteN s p = 48
        case pos =>
          have HF : Hid (R = -1) := by show _ = _; rw [HRR.out, HJ.out]; exact numV_lead ⟨by omega, by rw [hbh, h48]; rfl⟩
          have u3 : (((byteN s p : Nat) : Int) == 48) = true := beq_iff_eq.2 (by omega)
          clear HALL HJ hall hlj e1 hbh h48
          generalize valD (L.take j) = V at *
          generalize byteN s p = B at *
          clear hq
          go_wp2_with fail
          go_ret2
          refine ⟨?_, rfl⟩
          rw [HF.out, HK.out]
          rfl
        have HF : Hid (R = (valD (L.take j) : Int)) := by
          show _ = _
          rw [HRR.out, HJ.out]
          refine numV_ok (by omega) (by omega) hall (fun h => h48 ?_) (by omega) (by omega)
          have h := h.2
          rw [hbh] at h
          have := congrArg UInt8.toNat (Option.some.inj h)
          simpa [Nat.mod_eq_of_lt hb256] using this
        have u3 : (((byteN s p : Nat) : Int) == 48) = false := beq_eq_false_iff_ne.2 (by omega)
        clear HALL HJ hall hlj e1 hbh h48
        generalize valD (L.take j) = V at *
        generalize byteN s p = B at *
        clear hq
        go_wp2_with fail
        go_ret2
        refine ⟨?_, rfl⟩
        rw [HF.out, HK.out]
        rfl
      have HF : Hid (R = (valD (L.take j) : Int)) := by
        show _ = _
        rw [HRR.out, HJ.out]
        exact numV_ok (by omega) (by omega) hall (fun h => by omega) (by omega) (by omega)
      have u2 : decide ((1 : Int) < (q : Int) - (p : Int)) = false := decide_eq_false (by omega)
      clear HALL HJ hall hlj e1 hbh hix
      generalize valD (L.take j) = V at *
      generalize byteN s p = B at *
      clear hq
      go_wp2_with fail
      go_ret2
      refine ⟨?_, rfl⟩
      rw [HF.out, HK.out]
      rfl
    have t3 : decide ((b : Int) ≤ 57) = true := decide_eq_true (by omega)
    by_cases h11 : j = 11
    case pos =>
      have t4 : decide ((q : Int) - (p : Int) < 11) = false := decide_eq_false (by omega)
      have HJ := Lib.hid (HJ2.out h11)
      clear h11
      clear HST HJ1 HJ2 HDG
      have hall := HALL.out
      have hlj : (L.take j).length = j := by rw [List.length_take]; omega
      have HK : Hid (E = (q : Int)) := by show _ = _; rw [HEE.out, HJ.out, hlj]; omega
      by_cases hj0 : j = 0
      case pos =>
        have HF : Hid (R = -1) := by show _ = _; rw [HRR.out, HJ.out, hj0]; exact numV_nil most
        have u1 : decide ((most : Int) < -1) = false := decide_eq_false (by omega)
        have u2 : decide ((1 : Int) < (q : Int) - (p : Int)) = false := decide_eq_false (by omega)
        have e1 : valJ L j = -1 := by rw [hj0]; rfl
        rw [e1]
        clear HALL HJ hall hlj e1 hj0
        clear hq
        go_wp2_with fail
        go_ret2
        refine ⟨?_, rfl⟩
        rw [HF.out, HK.out]
        rfl
      have e1 : valJ L j = (valD (L.take j) : Int) := by unfold valJ; rw [if_neg hj0]
      rw [e1]
      have hvl := valD_take_lt (L := L) (by omega) hall
      by_cases hbig : most < valD (L.take j)
      case pos =>
        have HF : Hid (R = -1) := by show _ = _; rw [HRR.out, HJ.out]; exact numV_big hbig
        have u1 : decide ((most : Int) < ((valD (L.take j) : Nat) : Int)) = true := decide_eq_true (by omega)
        clear HALL HJ hall hlj e1
        generalize valD (L.take j) = V at *
        clear hq
        go_wp2_with fail
        go_ret2
        refine ⟨?_, rfl⟩
        rw [HF.out, HK.out]
        rfl
      have u1 : decide ((most : Int) < ((valD (L.take j) : Nat) : Int)) = false := decide_eq_false (by omega)
      have hix : ∀ W, (Instr.index 9 (.string s) (.int .i64 (p : Int))).run Tryz.prog W = .ok (.int .u8 ((byteN s p : Nat) : Int)) W := fun W => index_str s p (by omega) 9 Tryz.underlying9 W
      have hbh : (L.take j).head? = some (UInt8.ofNat (byteN s p)) := by
        have h0 : 0 < L.length := by omega
        rw [HL.out] at h0 ⊢
        have hpl : p < s.data.toList.length := by rw [size_list]; omega
        rw [List.drop_eq_getElem_cons hpl]
        obtain ⟨j', rfl⟩ : ∃ j', j = j' + 1 := ⟨j - 1, by omega⟩
        rw [List.take_succ_cons, List.head?_cons]
        unfold byteN
        rw [List.getD_eq_getElem?_getD, List.getElem?_eq_getElem hpl]
        simp
      have hb256 : byteN s p < 256 := by unfold byteN; exact UInt8.toNat_lt _
      by_cases h1 : 1 < j
      case pos =>
        have u2 : decide ((1 : Int) < (q : Int) - (p : Int)) = true := decide_eq_true (by omega)
        by_cases h48 : byteN s p = 48
        case pos =>
          have HF : Hid (R = -1) := by show _ = _; rw [HRR.out, HJ.out]; exact numV_lead ⟨by omega, by rw [hbh, h48]; rfl⟩
          have u3 : (((byteN s p : Nat) : Int) == 48) = true := beq_iff_eq.2 (by omega)
          clear HALL HJ hall hlj e1 hbh h48
          generalize valD (L.take j) = V at *
          generalize byteN s p = B at *
          clear hq
          go_wp2_with fail
          go_ret2
          refine ⟨?_, rfl⟩
          rw [HF.out, HK.out]
          rfl
        have HF : Hid (R = (valD (L.take j) : Int)) := by
          show _ = _
          rw [HRR.out, HJ.out]
          refine numV_ok (by omega) (by omega) hall (fun h => h48 ?_) (by omega) (by omega)
          have h := h.2
          rw [hbh] at h
          have := congrArg UInt8.toNat (Option.some.inj h)
          simpa [Nat.mod_eq_of_lt hb256] using this
        have u3 : (((byteN s p : Nat) : Int) == 48) = false := beq_eq_false_iff_ne.2 (by omega)
        clear HALL HJ hall hlj e1 hbh h48
        generalize valD (L.take j) = V at *
        generalize byteN s p = B at *
        clear hq
        go_wp2_with fail
        go_ret2
        refine ⟨?_, rfl⟩
        rw [HF.out, HK.out]
        rfl
      have HF : Hid (R = (valD (L.take j) : Int)) := by
        show _ = _
        rw [HRR.out, HJ.out]
        exact numV_ok (by omega) (by omega) hall (fun h => by omega) (by omega) (by omega)
      have u2 : decide ((1 : Int) < (q : Int) - (p : Int)) = false := decide_eq_false (by omega)
      clear HALL HJ hall hlj e1 hbh hix
      generalize valD (L.take j) = V at *
      generalize byteN s p = B at *
      clear hq
      go_wp2_with fail
      go_ret2
      refine ⟨?_, rfl⟩
      rw [HF.out, HK.out]
      rfl
    have t4 : decide ((q : Int) - (p : Int) < 11) = true := decide_eq_true (by omega)
    obtain ⟨hs1, hs2⟩ := HST.out (by rw [HDG.out, decide_eq_true h48, decide_eq_true h57]; rfl)
    have HS1 := Lib.hid hs1
    have HS2 := Lib.hid hs2
    clear HST HJ1 HJ2 HDG hs1 hs2
    by_cases hj0 : j = 0
    case pos =>
      have e1 : valJ L j = -1 := by rw [hj0]; rfl
      rw [e1]
      have HS3 : Hid (valJ L (j + 1) = (b : Int) - 48) := by show _ = _; rw [HS2.out, if_pos hj0]; omega
      clear hj0 e1 HS2 hq
      go_wp2_with fail
      refine ⟨⟨j + 1, q + 1, by omega, by omega, by (show _ = _; have := HQ.out; omega), by go_num, by rw [HS3.out], HS1, by first | trivial | rfl⟩, ?_⟩
      have := HQ.out
      simp [intOf]; omega
    case neg =>
      have e1 : valJ L j = (valD (L.take j) : Int) := by unfold valJ; rw [if_neg hj0]
      have hvl := valD_take_lt (L := L) hj HALL.out
      have HS3 : Hid (valJ L (j + 1) = 10 * (valD (L.take j) : Int) + (b : Int) - 48) := by have h := HS2.out; rw [if_neg hj0, e1] at h; exact h
      rw [e1]
      clear e1 HS2
      generalize valD (L.take j) = V at *
      have u1 : decide ((V : Int) < 0) = false := decide_eq_false (by omega)
      clear hq hj0
      go_wp2_with fail
      refine ⟨⟨j + 1, q + 1, by omega, by omega, by (show _ = _; have := HQ.out; omega), by go_num, by rw [HS3.out], HS1, by first | trivial | rfl⟩, ?_⟩
      have := HQ.out
      simp [intOf]; omega
end Go.Proofs.YtdlpgoackmgdkaaGreatDoor
