/- Numbers: ParseUint, number, the document's Number. -/
import Derived.Test.YtalmgjeiopjhlaaGreatDoorAsmHI
import Derived.Lib.ParseIntBCases
import Derived.Lib.AtoiErrMem
namespace Go.Proofs.YtalmgjeiopjhlaaGreatDoor
open Go.Shelf Go.RowKit
set_option linter.unusedVariables false
set_option linter.unusedSimpArgs false
def numM (acc : Nat) : List UInt8 → Option Nat
  | [] => some acc
  | c :: r => if 48 ≤ c.toNat ∧ c.toNat ≤ 57 then (if 4294967295 < 10 * acc + (c.toNat - 48) then none else numM (10 * acc + (c.toNat - 48)) r) else none
def numL (l : List UInt8) : Option Nat := match l with
  | [] => none
  | c :: r => if c.toNat = 48 ∧ r ≠ [] then none else numM 0 (c :: r)
theorem numM_parse : ∀ (l : List UInt8) (acc : Nat), acc ≤ 4294967295 → (match Lib.parseUintM 4294967295 acc l with | .ok u => some u | _ => none) = numM acc l
  | [], acc, _ => rfl
  | c :: r, acc, ha => by
    unfold Lib.parseUintM numM
    by_cases hd : 48 ≤ c.toNat ∧ c.toNat ≤ 57
    · rw [if_pos hd, if_pos hd, if_neg (by omega), Nat.mul_comm acc 10]
      by_cases hm : 4294967295 < 10 * acc + (c.toNat - 48)
      · rw [if_pos hm, if_pos hm]
      · rw [if_neg hm, if_neg hm]
        exact numM_parse r _ (by omega)
    · rw [if_neg hd, if_neg hd]
theorem numM_val : ∀ (l : List UInt8) (acc u : Nat), numM acc l = some u → u = l.foldl (fun a b => 10 * a + (b.toNat - 48)) acc ∧ l.all isDig = true ∧ (acc ≤ 4294967295 → u ≤ 4294967295)
  | [], acc, u, h => by cases h; exact ⟨rfl, rfl, fun h => h⟩
  | c :: r, acc, u, h => by
    unfold numM at h
    by_cases hd : 48 ≤ c.toNat ∧ c.toNat ≤ 57
    · rw [if_pos hd] at h
      by_cases hm : 4294967295 < 10 * acc + (c.toNat - 48)
      · rw [if_pos hm] at h; cases h
      · rw [if_neg hm] at h
        obtain ⟨h1, h2, h3⟩ := numM_val r _ u h
        refine ⟨h1, ?_, fun _ => h3 (by omega)⟩
        rw [List.all_cons, h2]
        unfold isDig; simp; exact hd
    · rw [if_neg hd] at h; cases h
theorem dec_step {n : Nat} (h : ¬ n < 10) : Lib.decDigits n = Lib.decDigits (n / 10) ++ [UInt8.ofNat (48 + n % 10)] := by
  rw [Lib.decDigits, dif_neg h]
theorem dig_back {b : UInt8} (h : isDig b = true) : UInt8.ofNat (48 + (b.toNat - 48)) = b := by
  unfold isDig at h; simp at h
  have : 48 + (b.toNat - 48) = b.toNat := by omega
  rw [this]; simp
theorem valD_snoc (l : List UInt8) (b : UInt8) : valD (l ++ [b]) = 10 * valD l + (b.toNat - 48) := by unfold valD; rw [List.foldl_append]; rfl
theorem dig_lt {b : UInt8} (h : isDig b = true) : b.toNat - 48 < 10 := by unfold isDig at h; simp at h; omega
theorem valD_pos : ∀ (n : Nat) (l : List UInt8) (c : UInt8), l.length = n → (c :: l).all isDig = true → c.toNat ≠ 48 → 1 ≤ valD (c :: l)
  | 0, l, c, hl, hd, hc => by
    obtain rfl := List.length_eq_zero_iff.1 hl
    rw [List.all_cons, Bool.and_eq_true] at hd
    have := hd.1; unfold isDig at this; simp at this
    show 1 ≤ 10 * 0 + (c.toNat - 48)
    omega
  | n + 1, l, c, hl, hd, hc => by
    obtain ⟨l', b, rfl⟩ : ∃ l' b, l = l' ++ [b] := ⟨l.dropLast, l.getLast (by intro h; rw [h] at hl; simp at hl), (List.dropLast_concat_getLast _).symm⟩
    have hl' : l'.length = n := by simpa using hl
    have hd' : (c :: l').all isDig = true := by
      rw [← List.cons_append, List.all_append, Bool.and_eq_true] at hd; exact hd.1
    have := valD_pos n l' c hl' hd' hc
    rw [← List.cons_append, valD_snoc]; omega
theorem canon : ∀ (n : Nat) (l : List UInt8) (c : UInt8), l.length = n → (c :: l).all isDig = true → (c.toNat ≠ 48 ∨ l = []) → Lib.decDigits (valD (c :: l)) = c :: l
  | 0, l, c, hl, hd, hc => by
    obtain rfl := List.length_eq_zero_iff.1 hl
    rw [List.all_cons, Bool.and_eq_true] at hd
    have h1 := dig_lt hd.1
    have e : valD [c] = c.toNat - 48 := by show 10 * 0 + (c.toNat - 48) = _; omega
    rw [e, Lib.decDigits_one h1, dig_back hd.1]
  | n + 1, l, c, hl, hd, hc => by
    obtain ⟨l', b, rfl⟩ : ∃ l' b, l = l' ++ [b] := ⟨l.dropLast, l.getLast (by intro h; rw [h] at hl; simp at hl), (List.dropLast_concat_getLast _).symm⟩
    have hl' : l'.length = n := by simpa using hl
    have hc' : c.toNat ≠ 48 := by
      rcases hc with h | h
      · exact h
      · simp at h
    rw [← List.cons_append] at hd ⊢
    rw [List.all_append, Bool.and_eq_true] at hd
    have hd2 : isDig b = true := by have := hd.2; simpa using this
    have hp := valD_pos n l' c hl' hd.1 hc'
    have hb := dig_lt hd2
    rw [valD_snoc, dec_step (by omega)]
    have e1 : (10 * valD (c :: l') + (b.toNat - 48)) / 10 = valD (c :: l') := by omega
    have e2 : (10 * valD (c :: l') + (b.toNat - 48)) % 10 = b.toNat - 48 := by omega
    rw [e1, e2, canon n l' c hl' hd.1 (.inl hc'), dig_back hd2]
theorem head_dec : ∀ n : Nat, 10 ≤ n → ∃ c r, Lib.decDigits n = c :: r ∧ c.toNat ≠ 48 ∧ r ≠ [] := by
  intro n
  induction n using Nat.strongRecOn with
  | _ n ih =>
    intro h
    rw [dec_step (by omega)]
    by_cases h2 : n / 10 < 10
    · rw [Lib.decDigits_one h2]
      refine ⟨_, _, rfl, ?_, by simp⟩
      have : (UInt8.ofNat (48 + n / 10)).toNat = 48 + n / 10 := by simp; omega
      rw [this]; omega
    · obtain ⟨c, r, e, h3, h4⟩ := ih (n / 10) (by omega) (by omega)
      rw [e]
      exact ⟨c, r ++ [_], rfl, h3, by simp⟩
/-- What ParseUint gives, and FormatUint gives back, is just what is a number. -/
theorem num_iff (l : List UInt8) (n : Nat) : (Lib.parseUintB 32 l = .ok n ∧ Lib.decDigits n = l) ↔ numL l = some n := by
  unfold Lib.parseUintB
  rw [show (2 : Nat) ^ 32 - 1 = 4294967295 by decide]
  cases l with
  | nil => simp [numL]
  | cons c r =>
    rw [if_neg (by simp)]
    have hp := numM_parse (c :: r) 0 (by omega)
    constructor
    · rintro ⟨h1, h2⟩
      rw [h1] at hp
      have h3 : ¬ (c.toNat = 48 ∧ r ≠ []) := by
        rintro ⟨hc, hr⟩
        by_cases hn : n < 10
        · rw [Lib.decDigits_one hn] at h2
          exact hr (List.cons.inj h2).2.symm
        · obtain ⟨c', r', e, h4, _⟩ := head_dec n (by omega)
          rw [e] at h2
          rw [(List.cons.inj h2).1] at h4
          exact h4 hc
      show (if _ then _ else _) = _
      rw [if_neg h3]; exact hp.symm
    · intro h
      have h' : (if c.toNat = 48 ∧ r ≠ [] then none else numM 0 (c :: r)) = some n := h
      by_cases h3 : c.toNat = 48 ∧ r ≠ []
      · rw [if_pos h3] at h'; cases h'
      · rw [if_neg h3] at h'
        obtain ⟨h4, h5, _⟩ := numM_val _ _ _ h'
        refine ⟨?_, ?_⟩
        · rw [h'] at hp
          cases hq : Lib.parseUintM 4294967295 0 (c :: r) with
          | ok u => rw [hq] at hp; simp at hp; rw [hp]
          | «syntax» => rw [hq] at hp; cases hp
          | range => rw [hq] at hp; cases hp
        · have : n = valD (c :: r) := h4
          rw [this]
          refine canon _ r c rfl h5 ?_
          by_cases hc : c.toNat = 48
          · right; exact Classical.byContradiction fun hr => h3 ⟨hc, hr⟩
          · left; exact hc
end Go.Proofs.YtalmgjeiopjhlaaGreatDoor
/- ParseUint, number, the document's Number. -/
namespace Go.Proofs.YtalmgjeiopjhlaaGreatDoor
open Go.Shelf Go.RowKit
set_option linter.unusedVariables false
set_option linter.unusedSimpArgs false
def ErrV (ev : Value) : Prop := ev = .nilIface ∨ ∃ te pe, ev = .iface te pe
def ErrW (w : World) : Prop := (∃ ev, w.cell? ⟨Tryz.laysTE_ren.g 15, 0, none⟩ = some ev ∧ ErrV ev) ∧ (∃ ev, w.cell? ⟨Tryz.laysTE_ren.g 16, 0, none⟩ = some ev ∧ ErrV ev)
theorem ErrW.below {w w' : World} (h : ErrW w) (hb : Below w.heap.size w w') : ErrW w' := by
  obtain ⟨⟨a, h1, h2⟩, ⟨b, h3, h4⟩⟩ := h
  exact ⟨⟨a, (hb.cell (Lib.lt_of_cell h1)).trans h1, h2⟩, ⟨b, (hb.cell (Lib.lt_of_cell h3)).trans h3, h4⟩⟩
theorem pui_any (s : ByteArray) (w : World) (hs : s.size ≤ 281474976710656) :
    Calls Tryz.prog 107 #[.string s, .int .i64 10, .int .i64 32] w fun e w' => e = .returned (Lib.uintTupleM (Tryz.laysTE_ren.t 167) 4294967295 (Lib.parseUintB 32 s.data.toList)) ∧ Below w.heap.size w w' := by
  refine (Any.internal_strconv_ParseUint_10_at32 Tryz.laysPU s (by omega) w).mono ?_
  rintro e w' ⟨he, h⟩
  refine ⟨he, ?_⟩
  rcases h with rfl | rfl
  · exact Below.refl _ _
  · exact Lib.bytesWorld_below _ _ _
set_option maxRecDepth 100000 in
set_option maxHeartbeats 1000000 in
theorem pu_any (s : ByteArray) (w : World) (hs : s.size ≤ 281474976710656) (hE : ErrW w) :
    Calls Tryz.prog 88 #[.string s, .int .i64 10, .int .i64 32] w fun e w' => ((∃ n, Lib.parseUintB 32 s.data.toList = .ok n ∧ e = .returned (.tuple #[.int .u64 ((n : Nat) : Int), .nilIface])) ∨ ((∀ n, Lib.parseUintB 32 s.data.toList ≠ .ok n) ∧ ∃ (z : Nat) (T : TypeId) (p : Value), z ≤ 4294967295 ∧ e = .returned (.tuple #[.int .u64 ((z : Nat) : Int), .iface T p]))) ∧ Below w.heap.size w w' := by
  have hI := pui_any s w hs
  cases hp : Lib.parseUintB 32 s.data.toList with
  | ok n =>
    rw [hp] at hI
    have HI := Lib.hid (show Calls Tryz.prog 107 #[.string s, .int .i64 10, .int .i64 32] w fun e w' => e = .returned (.tuple #[.int .u64 ((n : Nat) : Int), .nilIface]) ∧ Below w.heap.size w w' from hI)
    clear hI hp
    go_enter Tryz.func88, Tryz.ntmps88
    go_wp2_with fail
    refine HI.out.mono ?_
    rintro e w2 ⟨rfl, hb⟩
    have B2 := Lib.hid hb
    clear hb HI
    go_wp2_with fail
    go_ret2
    exact ⟨.inl ⟨n, rfl, rfl⟩, B2.out⟩
  | «syntax» =>
    rw [hp] at hI
    have HI := Lib.hid (show Calls Tryz.prog 107 #[.string s, .int .i64 10, .int .i64 32] w fun e w' => e = .returned (.tuple #[.int .u64 0, .iface (Tryz.laysTE_ren.t 167) (.int .i64 2)]) ∧ Below w.heap.size w w' from hI)
    have HE := Lib.hid hE
    clear hI hE
    go_enter Tryz.func88, Tryz.ntmps88
    go_wp2_with fail
    refine HI.out.mono ?_
    rintro e w2 ⟨rfl, hb⟩
    have B2 := Lib.hid hb
    clear hb HI
    go_wp2_with fail
    obtain ⟨⟨ev, h1, h2⟩, _⟩ := HE.out.below B2.out
    refine (Any.strconv_toError_syntax Tryz.laysTE _ s 10 32 ev w2 hs h1 h2).mono ?_
    rintro e w3 ⟨N, rfl, _, _, hb⟩
    have B3 := Lib.hid (B2.out.trans (hb.mono B2.out.size))
    clear hb h1 h2 HE
    go_wp2_with fail
    go_ret2
    exact ⟨.inr ⟨fun n h => (by cases h), 0, _, _, by omega, rfl⟩, B3.out⟩
  | range =>
    rw [hp] at hI
    have HI := Lib.hid (show Calls Tryz.prog 107 #[.string s, .int .i64 10, .int .i64 32] w fun e w' => e = .returned (.tuple #[.int .u64 4294967295, .iface (Tryz.laysTE_ren.t 167) (.int .i64 1)]) ∧ Below w.heap.size w w' from hI)
    have HE := Lib.hid hE
    clear hI hE
    go_enter Tryz.func88, Tryz.ntmps88
    go_wp2_with fail
    refine HI.out.mono ?_
    rintro e w2 ⟨rfl, hb⟩
    have B2 := Lib.hid hb
    clear hb HI
    go_wp2_with fail
    obtain ⟨_, ⟨ev, h1, h2⟩⟩ := HE.out.below B2.out
    refine (Any.strconv_toError_range Tryz.laysTE _ s 10 32 ev w2 hs h1 h2).mono ?_
    rintro e w3 ⟨N, rfl, _, _, hb⟩
    have B3 := Lib.hid (B2.out.trans (hb.mono B2.out.size))
    clear hb h1 h2 HE
    go_wp2_with fail
    go_ret2
    exact ⟨.inr ⟨fun n h => (by cases h), 4294967295, _, _, by omega, rfl⟩, B3.out⟩
def NumV (s : ByteArray) (e : Ending) : Prop := ∃ v : Nat, v < 4294967296 ∧ e = .returned (.tuple #[.int .u32 ((v : Nat) : Int), .bool (numL s.data.toList).isSome]) ∧ ∀ n, numL s.data.toList = some n → v = n
set_option maxRecDepth 100000 in
set_option maxHeartbeats 1000000 in
theorem number_any (s : ByteArray) (w : World) (hs : s.size ≤ 281474976710656) (hE : ErrW w) (hT : TabW w) :
    Calls Tryz.prog 63 #[.string s] w fun e w' => NumV s e ∧ Below w.heap.size w w' := by
  have HP := Lib.hid (pu_any s w hs hE)
  have HT := Lib.hid hT
  clear hE hT
  go_enter Tryz.func63, Tryz.ntmps63
  go_wp2_with fail
  refine HP.out.mono ?_
  rintro e w2 ⟨h, hb⟩
  have B2 := Lib.hid hb
  clear hb HP
  rcases h with ⟨n, hp, rfl⟩ | ⟨hp, z, T, p, hz, rfl⟩
  · have hn : n ≤ 4294967295 := by have := Lib.parseUintB_le hp; rw [show (2 : Nat) ^ 32 - 1 = 4294967295 by decide] at this; exact this
    go_wp2_with fail
    refine (fmt_any n (by omega) w2 (HT.out.below B2.out)).mono ?_
    rintro e w3 ⟨rfl, hb⟩
    have B3 := Lib.hid (B2.out.trans (hb.mono B2.out.size))
    clear hb
    have HQ : Hid (((decS n).toList == s.toList) = (numL s.data.toList).isSome ∧ ∀ m, numL s.data.toList = some m → n = m) := by
      constructor
      · rw [str_eq]
        cases hx : numL s.data.toList with
        | some m =>
          have h1 := (num_iff _ _).2 hx
          rw [hp] at h1
          have : n = m := by have := h1.1; injection this
          subst this
          exact decide_eq_true h1.2
        | none =>
          apply decide_eq_false
          intro h
          have := (num_iff s.data.toList n).1 ⟨hp, h⟩
          rw [hx] at this; cases this
      · intro m hm
        have h1 := (num_iff _ _).2 hm
        rw [hp] at h1
        have := h1.1; injection this
    generalize decS n = ds at *
    go_wp2_with fail
    go_ret2
    refine ⟨⟨n, by omega, ?_, HQ.out.2⟩, B3.out⟩
    rw [← HQ.out.1]; rfl
  · go_wp2_with fail
    go_ret2
    have hx : numL s.data.toList = none := by
      cases hx : numL s.data.toList with
      | none => rfl
      | some m => exact absurd ((num_iff _ _).2 hx).1 (hp m)
    refine ⟨⟨z, by omega, ?_, fun n h => by rw [hx] at h; cases h⟩, B2.out⟩
    rw [hx]; rfl
theorem numM_digit {s : ByteArray} {l : List UInt8} (hl : s.data.toList = l) {k acc : Nat} (hk : k < l.length) (hd : 48 ≤ byteN s k ∧ byteN s k ≤ 57) : numM acc (l.drop k) = if 4294967295 < 10 * acc + (byteN s k - 48) then none else numM (10 * acc + (byteN s k - 48)) (l.drop (k + 1)) := by
  rw [List.drop_eq_getElem_cons hk]
  have e := byteN_get hl k hk
  rw [e] at hd ⊢
  show (if _ then _ else _) = _
  rw [if_pos hd]
theorem numM_other {s : ByteArray} {l : List UInt8} (hl : s.data.toList = l) {k acc : Nat} (hk : k < l.length) (hd : ¬ (48 ≤ byteN s k ∧ byteN s k ≤ 57)) : numM acc (l.drop k) = none := by
  rw [List.drop_eq_getElem_cons hk]
  have e := byteN_get hl k hk
  rw [e] at hd
  show (if _ then _ else _) = _
  rw [if_neg hd]
theorem numL_zero {s : ByteArray} (h : 1 < s.size) (h0 : byteN s 0 = 48) : numL s.data.toList = none := by
  rw [← size_list] at h
  cases hl : s.data.toList with
  | nil => rfl
  | cons c r =>
    rw [byteN_0 hl] at h0
    rw [hl] at h
    show (if _ then _ else _) = _
    rw [if_pos ⟨h0, by intro e; rw [e] at h; simp at h⟩]
theorem numL_else {s : ByteArray} (h0 : 0 < s.size) (h : ¬ (1 < s.size ∧ byteN s 0 = 48)) : numL s.data.toList = numM 0 s.data.toList := by
  rw [← size_list] at h h0
  cases hl : s.data.toList with
  | nil => rw [hl] at h0; simp at h0
  | cons c r =>
    rw [byteN_0 hl, hl] at h
    show (if _ then _ else _) = _
    rw [if_neg]
    rintro ⟨h1, h2⟩
    refine h ⟨?_, h1⟩
    cases r with
    | nil => exact absurd rfl h2
    | cons d r => simp
def numR (s : ByteArray) : Value := .tuple #[.int .u32 (((numL s.data.toList).getD 0 : Nat) : Int), .bool (numL s.data.toList).isSome]
set_option maxRecDepth 100000 in
set_option maxHeartbeats 2000000 in
theorem rnumber_any (s : ByteArray) (w : World) (hs : s.size ≤ 281474976710656) :
    Calls Tryz.prog 90 #[.string s] w fun e w' => e = .returned (numR s) ∧ w' = w := by
  by_cases hz : s.size = 0
  · have HNO : numL s.data.toList = none := by rw [← size_list] at hz; rw [List.length_eq_zero_iff.1 hz]; rfl
    have te : decide ((0 : Int) < (s.size : Int)) = false := decide_eq_false (by omega)
    go_enter Tryz.func90, Tryz.ntmps90
    go_wp2_with fail
    refine wp_loop_rounds 1 ?_
    rw [rounds_succ]
    go_wp2_with fail
    go_ret2
    refine ⟨?_, rfl⟩
    unfold numR; rw [HNO]; rfl
  have te : decide ((0 : Int) < (s.size : Int)) = true := decide_eq_true (by omega)
  have HI : ∀ k, k < s.size → ∀ W, (Instr.index 9 (.string s) (.int .i64 (k : Int))).run Tryz.prog W = .ok (.int .u8 ((byteN s k : Nat) : Int)) W := fun k hk W => index_str s k hk 9 Tryz.underlying9 W
  have HLZ := Lib.hid (size_list s)
  have HL0 := Lib.hid (fun h => numL_zero (s := s) h)
  have HLE := Lib.hid (fun h => numL_else (s := s) (by omega) h)
  have HMD := Lib.hid (fun k acc (hk : k < s.size) hd => numM_digit (s := s) rfl (k := k) (acc := acc) (by rw [size_list]; exact hk) hd)
  have HMO := Lib.hid (fun k acc (hk : k < s.size) hd => numM_other (s := s) rfl (k := k) (acc := acc) (by rw [size_list]; exact hk) hd)
  generalize hsz : s.size = sz at *
  generalize hl : s.data.toList = l at HLZ HL0 HLE HMD HMO
  have HNR : Hid (numR s = .tuple #[.int .u32 (((numL l).getD 0 : Nat) : Int), .bool (numL l).isSome]) := by show numR s = _; unfold numR; rw [hl]
  clear hl
  go_enter Tryz.func90, Tryz.ntmps90
  go_wp2_with fail
  go_loopw [4, 5] (fun v i wr => ∃ k acc : Nat, k ≤ sz ∧ v = .int .u64 (acc : Int) ∧ i = .int .i64 (k : Int) ∧ wr = w ∧ acc ≤ 4294967295 ∧ Hid (0 < k → numL l = numM acc (l.drop k)) ∧ Hid (k = 0 → acc = 0)) (fun _ i _ => sz - (intOf i).toNat)
  case atStart => exact ⟨0, 0, Nat.zero_le _, rfl, rfl, rfl, by omega, fun h => absurd h (by omega), fun _ => rfl⟩
  case round =>
    obtain ⟨k, acc, hk, rfl, rfl, rfl, ha, HV, HZ⟩ := hrel
    rcases Nat.lt_or_ge k sz with hk2 | hk2
    case inr =>
      obtain rfl : k = sz := by omega
      have t2 : decide ((k : Int) < (k : Int)) = false := by simp
      have tk : decide (0 < k) = true := decide_eq_true (by omega)
      have HX : numL l = some acc := by rw [HV.out (by omega), List.drop_eq_nil_iff.2 (by rw [HLZ.out]; omega)]; rfl
      go_wp2_with fail
      go_ret2
      exact ⟨by rw [HNR.out, HX]; rfl, rfl⟩
    have t2 : decide ((k : Int) < (sz : Int)) = true := decide_eq_true (by omega)
    have hi := HI k hk2
    have hx := byteN_lt s k
    have HMD' := Lib.hid (HMD.out k acc hk2); have HMO' := Lib.hid (HMO.out k acc hk2)
    have HX0 : Hid (k = 0 → 1 < sz → byteN s k = 48 → numL l = none) := fun h0 h1 h2 => HL0.out h1 (by rw [← h0]; exact h2)
    have HX1 : Hid (¬ (k = 0 ∧ 1 < sz ∧ byteN s k = 48) → numL l = numM acc (l.drop k)) := fun h => by
      by_cases h0 : k = 0
      · subst h0
        rw [HZ.out rfl]
        exact HLE.out fun hc => h ⟨rfl, hc.1, hc.2⟩
      · exact HV.out (by omega)
    generalize byteN s k = x at hi hx HMD' HMO' HX0 HX1
    clear HI HMD HMO HL0 HLE HV HZ
    by_cases h48 : x < 48
    · have HNO : numL l = none := by rw [HX1.out (by omega), HMO'.out (by omega)]
      have q1 : decide ((x : Int) < 48) = true := decide_eq_true (by omega)
      clear HX1 HMD' HMO' HX0
      go_wp2_with fail
      go_ret2
      exact ⟨by rw [HNR.out, HNO]; rfl, rfl⟩
    have q1 : decide ((x : Int) < 48) = false := decide_eq_false (by omega)
    by_cases h57 : 57 < x
    · have HNO : numL l = none := by rw [HX1.out (by omega), HMO'.out (by omega)]
      have q2 : decide ((57 : Int) < (x : Int)) = true := decide_eq_true (by omega)
      clear HX1 HMD' HMO' HX0
      go_wp2_with fail
      go_ret2
      exact ⟨by rw [HNR.out, HNO]; rfl, rfl⟩
    have q2 : decide ((57 : Int) < (x : Int)) = false := decide_eq_false (by omega)
    have hdg : 48 ≤ x ∧ x ≤ 57 := by omega
    by_cases hk0 : k = 0
    · subst hk0
      have hi0 : ∀ W, (Instr.index 9 (.string s) (.int .i64 0)).run Tryz.prog W = .ok (.int .u8 (x : Int)) W := hi
      by_cases hx48 : x = 48
      · by_cases h1 : 1 < sz
        · have HNO : numL l = none := HX0.out rfl h1 hx48
          subst hx48
          have q3 : decide ((1 : Int) < (sz : Int)) = true := decide_eq_true (by omega)
          clear HX1 HMD' HMO' HX0
          go_wp2_with fail
          go_ret2
          exact ⟨by rw [HNR.out, HNO]; rfl, rfl⟩
        · have q3 : decide ((1 : Int) < (sz : Int)) = false := decide_eq_false (by omega)
          have HX1 := HX1.out (by omega)
          have q4 : ((x : Int) == 48) = true := by rw [hx48]; rfl
          clear hx48
          rcases Nat.lt_or_ge 4294967295 (10 * acc + (x - 48)) with hbig | hbig
          · have HNO : numL l = none := by rw [HX1, HMD'.out hdg, if_pos hbig]
            have q9 : decide ((4294967295 : Int) < 10 * (acc : Int) + ((x : Int) - 48)) = true := decide_eq_true (by omega)
            clear HX1 HMD' HMO' HX0
            go_wp2_with fail
            go_ret2
            exact ⟨by rw [HNR.out, HNO]; rfl, rfl⟩
          · have HNX : numL l = numM (10 * acc + (x - 48)) (l.drop (0 + 1)) := by rw [HX1, HMD'.out hdg, if_neg (by omega)]
            have q9 : decide ((4294967295 : Int) < 10 * (acc : Int) + ((x : Int) - 48)) = false := decide_eq_false (by omega)
            clear HX1 HMD' HMO' HX0
            go_wp2_with fail
            refine ⟨⟨0 + 1, 10 * acc + (x - 48), by omega, by go_num, by go_num, True.intro, by omega, fun _ => HNX, fun h => absurd h (by omega)⟩, ?_⟩
            simp [intOf]; omega
      · have q4 : ((x : Int) == 48) = false := beq_eq_false_iff_ne.2 (by omega)
        have HX1 := HX1.out (by omega)
        rcases Nat.lt_or_ge 4294967295 (10 * acc + (x - 48)) with hbig | hbig
        · have HNO : numL l = none := by rw [HX1, HMD'.out hdg, if_pos hbig]
          have q9 : decide ((4294967295 : Int) < 10 * (acc : Int) + ((x : Int) - 48)) = true := decide_eq_true (by omega)
          clear HX1 HMD' HMO' HX0
          go_wp2_with fail
          go_ret2
          exact ⟨by rw [HNR.out, HNO]; rfl, rfl⟩
        · have HNX : numL l = numM (10 * acc + (x - 48)) (l.drop (0 + 1)) := by rw [HX1, HMD'.out hdg, if_neg (by omega)]
          have q9 : decide ((4294967295 : Int) < 10 * (acc : Int) + ((x : Int) - 48)) = false := decide_eq_false (by omega)
          clear HX1 HMD' HMO' HX0
          go_wp2_with fail
          refine ⟨⟨0 + 1, 10 * acc + (x - 48), by omega, by go_num, by go_num, True.intro, by omega, fun _ => HNX, fun h => absurd h (by omega)⟩, ?_⟩
          simp [intOf]; omega
    · have q0 : ((k : Int) == 0) = false := beq_eq_false_iff_ne.2 (by omega)
      have HX1 := HX1.out (by omega)
      rcases Nat.lt_or_ge 4294967295 (10 * acc + (x - 48)) with hbig | hbig
      · have HNO : numL l = none := by rw [HX1, HMD'.out hdg, if_pos hbig]
        have q9 : decide ((4294967295 : Int) < 10 * (acc : Int) + ((x : Int) - 48)) = true := decide_eq_true (by omega)
        clear HX1 HMD' HMO' HX0
        go_wp2_with fail
        go_ret2
        exact ⟨by rw [HNR.out, HNO]; rfl, rfl⟩
      · have HNX : numL l = numM (10 * acc + (x - 48)) (l.drop (k + 1)) := by rw [HX1, HMD'.out hdg, if_neg (by omega)]
        have q9 : decide ((4294967295 : Int) < 10 * (acc : Int) + ((x : Int) - 48)) = false := decide_eq_false (by omega)
        clear HX1 HMD' HMO' HX0
        go_wp2_with fail
        refine ⟨⟨k + 1, 10 * acc + (x - 48), by omega, by go_num, by go_num, True.intro, by omega, fun _ => HNX, fun h => absurd h (by omega)⟩, ?_⟩
        simp [intOf]; omega
end Go.Proofs.YtalmgjeiopjhlaaGreatDoor
