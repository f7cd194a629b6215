/- A number of a plan's text: number; what the library gives: a line's parts, a text's head. -/
import Derived.Test.YtdlpgoackmgdkaaGreatDoorArPt
namespace Go.Proofs.YtdlpgoackmgdkaaGreatDoor
open Go.Shelf Go.RowKit
set_option linter.unusedVariables false
set_option linter.unusedSimpArgs false
def splB (s : ByteArray) : List ByteArray := Lib.splitB ⟨#[32]⟩ 0 (Lib.countB s ⟨#[32]⟩) s
theorem splB_part (s : ByteArray) : splB s = (partL 32 s.data.toList).map bytesOf := map_bytes (split_part 32 s)
theorem splB_len (s : ByteArray) : (splB s).length = Lib.countB s ⟨#[32]⟩ + 1 := Lib.splitB_all ⟨#[32]⟩ (Nat.le_refl 1) 0 _ s rfl
theorem split32_any (s : ByteArray) (w : World) (hs : s.size ≤ 524288) (hM : MaxW w) :
    Calls Tryz.prog 69 #[.string s, .string ⟨#[32]⟩] w fun e w' => e = .returned (.slice (some ⟨w.heap.size, 0, none⟩) (splB s).length (splB s).length) ∧ w' = w.alloc (.cells ((splB s).map Value.string).toArray 9) := by
  obtain ⟨m, hm⟩ := hM
  refine (Any.strings_Split Tryz.laysSplit (by kernel_rfl) s ⟨#[32]⟩ m w (by omega) hm (Nat.le_refl 1)).mono ?_
  rintro e w' ⟨h1, h2⟩
  exact ⟨by rw [h1, splB_len], h2⟩
/-- A text's head up to the first end of a line, what stands behind it; whether there is one. -/
def cutL (l : List UInt8) : List UInt8 × List UInt8 × Bool := Lib.cut l [10]
theorem cutL_hit {p r : List UInt8} (h : 10 ∉ p) : cutL (p ++ 10 :: r) = (p, r, true) := by
  unfold cutL Lib.cut
  rcases index_cases (p ++ 10 :: r) 10 with ⟨h1, h2⟩ | ⟨p', r', h1, h2, h3⟩
  · exact absurd (by simp) h2
  · have e := congrArg (partL 10) h1
    rw [partL_front 10 p h, partL_front 10 p' h2] at e
    have e1 := (List.cons.inj e).1
    subst e1
    rw [if_pos (by rw [h3]; omega), h3]
    simp
theorem cutL_miss {l : List UInt8} (h : 10 ∉ l) : cutL l = (l, [], false) := by
  unfold cutL Lib.cut
  rcases index_cases l 10 with ⟨h1, h2⟩ | ⟨p', r', h1, h2, h3⟩
  · rw [if_neg (by rw [h1]; decide)]
  · exact absurd (by rw [h1]; simp) h
theorem cut10_any (s : ByteArray) (w : World) (hs : s.size ≤ 524288) (hM : MaxW w) :
    Calls Tryz.prog 68 #[.string s, .string ⟨#[10]⟩] w fun e w' => e = .returned (.tuple #[.string (bytesOf (cutL s.data.toList).1), .string (bytesOf (cutL s.data.toList).2.1), .bool (cutL s.data.toList).2.2]) ∧ ∃ n, w' = w.drewN n := by
  obtain ⟨m, hm⟩ := hM
  exact Any.strings_Cut Tryz.laysCut s ⟨#[10]⟩ m w (by omega) hm
/-! ### digits -/
def digSet : List UInt8 := [48, 49, 50, 51, 52, 53, 54, 55, 56, 57]
set_option maxRecDepth 100000 in
theorem digSet_fin : ∀ n : Fin 256, digSet.contains (UInt8.ofNat n.val) = isDig (UInt8.ofNat n.val) := by decide
theorem digSet_eq (b : UInt8) : digSet.contains b = isDig b := by
  have := digSet_fin ⟨b.toNat, UInt8.toNat_lt _⟩
  simpa using this
theorem dtrim_nil (l : List UInt8) : (Lib.trimS l digSet).isEmpty = l.all isDig := by
  unfold Lib.trimS Lib.trimLeftS Lib.trimRightS
  have hp : (fun x => digSet.contains x) = isDig := funext digSet_eq
  rw [hp]
  cases ha : l.all isDig with
  | true =>
    have : l.reverse.all isDig = true := by rw [List.all_reverse]; exact ha
    rw [drop_all this]; rfl
  | false =>
    rw [drop_nil]
    cases hd : l.reverse.dropWhile isDig with
    | nil =>
      have := drop_nil (p := isDig) l.reverse
      rw [hd, List.all_reverse, ha] at this
      simp at this
    | cons b r =>
      have := drop_some _ b r hd
      rw [List.all_reverse, List.all_cons, this]; rfl
def trimB (s : ByteArray) : ByteArray := ⟨(Lib.trimS s.data.toList digSet).toArray⟩
theorem trimB_empty (s : ByteArray) : (trimB s).toList.isEmpty = s.data.toList.all isDig := by
  rw [ByteArray.toList_eq, ← dtrim_nil]; rfl
theorem dtrim_any (s : ByteArray) (w : World) (hs : s.size ≤ 9223372036854775807) :
    Calls Tryz.prog 94 #[.string s, .string { data := #[48, 49, 50, 51, 52, 53, 54, 55, 56, 57] }] w fun e w' => e = .returned (.string (trimB s)) ∧ Below w.heap.size w w' :=
  Any.strings_Trim_laid Tryz.laysTrim (by kernel_rfl) s ⟨digSet.toArray⟩ w hs (by decide) (ascii_of_all (by decide))
theorem dbyteN_head {s : ByteArray} (h : 0 < s.size) : s.data.toList.head? = some (UInt8.ofNat (byteN s 0)) := by
  rw [← size_list] at h
  unfold byteN
  cases hl : s.data.toList with
  | nil => rw [hl] at h; simp at h
  | cons b r => simp
theorem pum_ok : ∀ (l : List UInt8) (acc k : Nat), acc < 10 ^ k → l.length + k ≤ 18 → l.all isDig = true → Lib.parseUintM 18446744073709551615 acc l = .ok (l.foldl (fun a b => 10 * a + (b.toNat - 48)) acc) ∧ l.foldl (fun a b => 10 * a + (b.toNat - 48)) acc < 10 ^ (l.length + k)
  | [], acc, k, h, _, _ => ⟨rfl, by simpa using h⟩
  | c :: r, acc, k, h, hk, hd => by
    rw [List.all_cons, Bool.and_eq_true] at hd
    have hc : 48 ≤ c.toNat ∧ c.toNat ≤ 57 := by have := hd.1; unfold isDig at this; simpa using this
    rw [List.length_cons] at hk
    have h17 : 10 ^ k ≤ 10 ^ 17 := Nat.pow_le_pow_right (by decide) (by omega)
    have hn : 10 * acc + (c.toNat - 48) < 10 ^ (k + 1) := by rw [Nat.pow_succ]; omega
    have h18 : 10 ^ (k + 1) ≤ 10 ^ 18 := Nat.pow_le_pow_right (by decide) (by omega)
    obtain ⟨e1, e2⟩ := pum_ok r (10 * acc + (c.toNat - 48)) (k + 1) hn (by omega) hd.2
    unfold Lib.parseUintM
    rw [if_pos hc, if_neg (by omega), Nat.mul_comm acc 10, if_neg (by omega)]
    refine ⟨e1, ?_⟩
    rw [List.foldl_cons, List.length_cons, show r.length + 1 + k = r.length + (k + 1) by omega]
    exact e2
theorem pub_ok {l : List UInt8} (h0 : l ≠ []) (h1 : l.length ≤ 10) (h2 : l.all isDig = true) : Lib.parseUintB 64 l = .ok (valD l) ∧ valD l < 10000000000 := by
  obtain ⟨e1, e2⟩ := pum_ok l 0 0 (by decide) (by omega) h2
  unfold Lib.parseUintB
  rw [if_neg h0]
  refine ⟨e1, Nat.lt_of_lt_of_le e2 ?_⟩
  exact (show 10 ^ (l.length + 0) ≤ 10 ^ 10 from Nat.pow_le_pow_right (by decide) (by omega))
theorem pu64_any (s : ByteArray) (v : Nat) (w : World) (hs : s.size ≤ 10) (hv : Lib.parseUintB 64 s.data.toList = .ok v) :
    Calls Tryz.prog 95 #[.string s, .int .i64 10, .int .i64 64] w fun e w' => e = .returned (.tuple #[.int .u64 (v : Int), .nilIface]) ∧ Below w.heap.size w w' := by
  have hI : Calls Tryz.prog 125 #[.string s, .int .i64 10, .int .i64 64] w fun e w' => e = .returned (.tuple #[.int .u64 (v : Int), .nilIface]) ∧ Below w.heap.size w w' := by
    refine (Any.internal_strconv_ParseUint_10_at64 Tryz.laysPU s (by omega) w).mono ?_
    rintro e w' ⟨he, h⟩
    rw [hv] at he
    refine ⟨he, ?_⟩
    rcases h with rfl | rfl
    · exact Below.refl _ _
    · exact Lib.bytesWorld_below _ _ _
  have HI := Lib.hid hI
  clear hI hv
  go_enter Tryz.func95, Tryz.ntmps95
  go_wp2_with fail
  refine HI.out.mono ?_
  rintro e w2 ⟨rfl, hb⟩
  have B2 := Lib.hid hb
  clear hb HI
  go_wp2_with fail
  go_ret2
  exact ⟨rfl, B2.out⟩
def NumP (most : Nat) (s : ByteArray) (e : Ending) : Prop := ∃ v : Nat, v < 10000000000 ∧ e = .returned (.tuple #[.int .u64 (v : Int), .bool (arN most s.data.toList).isSome]) ∧ ∀ n, arN most s.data.toList = some n → v = n
theorem arN_no {most : Nat} {l : List UInt8} (h : l.length = 0 ∨ 10 < l.length ∨ (1 < l.length ∧ l.head? = some 48) ∨ l.all isDig = false) : arN most l = none := by
  unfold arN
  rw [if_neg]
  rintro ⟨h1, h2, h3, h4, _⟩
  rcases h with h | h | h | h
  · omega
  · omega
  · exact h3 h
  · rw [h4] at h; cases h
theorem arN_yes {most : Nat} {l : List UInt8} (h1 : l.length ≠ 0) (h2 : l.length ≤ 10) (h3 : ¬ (1 < l.length ∧ l.head? = some 48)) (h4 : l.all isDig = true) : arN most l = if valD l ≤ most then some (valD l) else none := by
  unfold arN
  by_cases h : valD l ≤ most
  · rw [if_pos ⟨by omega, h2, h3, h4, h⟩, if_pos h]
  · rw [if_neg (fun c => h c.2.2.2.2), if_neg h]
set_option maxHeartbeats 2000000 in
set_option maxRecDepth 100000 in
theorem anum_any (s : ByteArray) (most : Nat) (w : World) (hs : s.size ≤ 9223372036854775807) (hmo : most ≤ 4294967295) : Calls Tryz.prog 70 #[.string s, .int .u64 (most : Int)] w fun e w' => NumP most s e ∧ Below w.heap.size w w' := by
  have HZ : Hid (s.data.toList.length = s.size) := size_list s
  by_cases h0 : s.size = 0
  · have HN : Hid (arN most s.data.toList = none) := arN_no (.inl (by rw [size_list]; exact h0))
    have HD : Hid (NumP most s (.returned (.tuple #[.int .u64 0, .bool false]))) := ⟨0, by decide, by rw [HN.out]; rfl, fun n h => by rw [HN.out] at h; cases h⟩
    have te := empty_is h0
    clear h0
    go_enter Tryz.func70, Tryz.ntmps70
    go_wp2_with fail
    go_ret2
    exact ⟨HD.out, Below.refl _ _⟩
  have te := empty_no (Nat.pos_of_ne_zero h0)
  by_cases h5 : 10 < s.size
  · have HN : Hid (arN most s.data.toList = none) := arN_no (.inr (.inl (by rw [size_list]; exact h5)))
    have HD : Hid (NumP most s (.returned (.tuple #[.int .u64 0, .bool false]))) := ⟨0, by decide, by rw [HN.out]; rfl, fun n h => by rw [HN.out] at h; cases h⟩
    have t5 : decide ((10 : Int) < (s.size : Int)) = true := decide_eq_true (by omega)
    clear h0
    go_enter Tryz.func70, Tryz.ntmps70
    go_wp2_with fail
    go_ret2
    exact ⟨HD.out, Below.refl _ _⟩
  have t5 : decide ((10 : Int) < (s.size : Int)) = false := decide_eq_false (by omega)
  have hi : ∀ W, (Instr.index 9 (.string s) (.int .i64 0)).run Tryz.prog W = .ok (.int .u8 ((byteN s 0 : Nat) : Int)) W := fun W => index_str s 0 (Nat.pos_of_ne_zero h0) 9 Tryz.underlying9 W
  by_cases h3 : 1 < s.size ∧ byteN s 0 = 48
  · have HN : Hid (arN most s.data.toList = none) := arN_no (.inr (.inr (.inl ⟨by rw [size_list]; exact h3.1, by rw [dbyteN_head (by omega), h3.2]; rfl⟩)))
    have HD : Hid (NumP most s (.returned (.tuple #[.int .u64 0, .bool false]))) := ⟨0, by decide, by rw [HN.out]; rfl, fun n h => by rw [HN.out] at h; cases h⟩
    obtain ⟨h3, h4⟩ := h3
    have t1 : decide ((1 : Int) < (s.size : Int)) = true := decide_eq_true (by omega)
    have t4 : (((byteN s 0 : Nat) : Int) == 48) = true := beq_iff_eq.2 (by omega)
    clear h0 h4
    generalize byteN s 0 = b0 at *
    go_enter Tryz.func70, Tryz.ntmps70
    go_wp2_with fail
    go_ret2
    exact ⟨HD.out, Below.refl _ _⟩
  have h3' : ¬ (1 < s.data.toList.length ∧ s.data.toList.head? = some 48) := by
    rintro ⟨h1, h2⟩
    rw [size_list] at h1
    rw [dbyteN_head (by omega)] at h2
    refine h3 ⟨h1, ?_⟩
    have := congrArg UInt8.toNat (Option.some.inj h2)
    have hb : byteN s 0 < 256 := by unfold byteN; exact UInt8.toNat_lt _
    simpa [Nat.mod_eq_of_lt hb] using this
  have HT := Lib.hid (fun W => dtrim_any s W hs)
  have HTE : Hid ((trimB s).toList.isEmpty = s.data.toList.all isDig) := trimB_empty s
  have t14 : Hid (¬ (1 < s.size ∧ byteN s 0 = 48)) := h3
  cases ha : s.data.toList.all isDig with
  | false =>
    have HN : Hid (arN most s.data.toList = none) := arN_no (.inr (.inr (.inr ha)))
    have HD : Hid (NumP most s (.returned (.tuple #[.int .u64 0, .bool false]))) := ⟨0, by decide, by rw [HN.out]; rfl, fun n h => by rw [HN.out] at h; cases h⟩
    have t6 : (trimB s).toList.isEmpty = false := by rw [HTE.out]; exact ha
    clear HTE ha h3'
    generalize trimB s = tb at *
    by_cases h1 : 1 < s.size
    · have t1 : decide ((1 : Int) < (s.size : Int)) = true := decide_eq_true (by omega)
      have t4 : (((byteN s 0 : Nat) : Int) == 48) = false := beq_eq_false_iff_ne.2 (fun e => h3 ⟨h1, by omega⟩)
      clear h0 h3 t14
      generalize byteN s 0 = b0 at *
      go_enter Tryz.func70, Tryz.ntmps70
      go_wp2_with fail
      refine (HT.out _).mono ?_
      rintro e w1 ⟨rfl, hb⟩
      have HB := Lib.hid hb
      clear hb HT
      go_wp2_with fail
      go_ret2
      exact ⟨HD.out, HB.out⟩
    · have t1 : decide ((1 : Int) < (s.size : Int)) = false := decide_eq_false (by omega)
      clear h0 h3 t14
      generalize byteN s 0 = b0 at *
      go_enter Tryz.func70, Tryz.ntmps70
      go_wp2_with fail
      refine (HT.out _).mono ?_
      rintro e w1 ⟨rfl, hb⟩
      have HB := Lib.hid hb
      clear hb HT
      go_wp2_with fail
      go_ret2
      exact ⟨HD.out, HB.out⟩
  | true =>
    obtain ⟨hpv, hvl⟩ := pub_ok (l := s.data.toList) (fun e => h0 (by rw [← size_list, e]; rfl)) (by rw [size_list]; omega) ha
    have HN : Hid (arN most s.data.toList = if valD s.data.toList ≤ most then some (valD s.data.toList) else none) := arN_yes (by rw [size_list]; exact h0) (by rw [size_list]; omega) h3' ha
    have HP := Lib.hid (fun W => pu64_any s _ W (by omega) hpv)
    have HD : Hid (∀ b : Bool, b = decide ((valD s.data.toList : Int) ≤ (most : Int)) → NumP most s (.returned (.tuple #[.int .u64 ((valD s.data.toList : Nat) : Int), .bool b]))) := fun b hb => by
      refine ⟨valD s.data.toList, hvl, ?_, ?_⟩
      · rw [HN.out]
        by_cases h : valD s.data.toList ≤ most
        · rw [if_pos h, hb, decide_eq_true (by omega)]; rfl
        · rw [if_neg h, hb, decide_eq_false (by omega)]; rfl
      · intro n hn
        rw [HN.out] at hn
        by_cases h : valD s.data.toList ≤ most
        · rw [if_pos h] at hn; exact Option.some.inj hn
        · rw [if_neg h] at hn; cases hn
    have t6 : (trimB s).toList.isEmpty = true := by rw [HTE.out]; exact ha
    clear HTE ha h3' hpv HN
    generalize trimB s = tb at *
    generalize valD s.data.toList = v at *
    by_cases h1 : 1 < s.size
    · have t1 : decide ((1 : Int) < (s.size : Int)) = true := decide_eq_true (by omega)
      have t4 : (((byteN s 0 : Nat) : Int) == 48) = false := beq_eq_false_iff_ne.2 (fun e => h3 ⟨h1, by omega⟩)
      clear h0 h3 t14
      generalize byteN s 0 = b0 at *
      go_enter Tryz.func70, Tryz.ntmps70
      go_wp2_with fail
      refine (HT.out _).mono ?_
      rintro e w1 ⟨rfl, hb⟩
      have HB := Lib.hid hb
      clear hb HT
      go_wp2_with fail
      refine (HP.out _).mono ?_
      rintro e w2 ⟨rfl, hb⟩
      have HB2 : Hid (Below w.heap.size w w2) := HB.out.trans (hb.mono HB.out.size)
      clear hb HP HB
      go_wp2_with fail
      go_ret2
      exact ⟨HD.out _ (by simp), HB2.out⟩
    · have t1 : decide ((1 : Int) < (s.size : Int)) = false := decide_eq_false (by omega)
      clear h0 h3 t14
      generalize byteN s 0 = b0 at *
      go_enter Tryz.func70, Tryz.ntmps70
      go_wp2_with fail
      refine (HT.out _).mono ?_
      rintro e w1 ⟨rfl, hb⟩
      have HB := Lib.hid hb
      clear hb HT
      go_wp2_with fail
      refine (HP.out _).mono ?_
      rintro e w2 ⟨rfl, hb⟩
      have HB2 : Hid (Below w.heap.size w w2) := HB.out.trans (hb.mono HB.out.size)
      clear hb HP HB
      go_wp2_with fail
      go_ret2
      exact ⟨HD.out _ (by simp), HB2.out⟩
end Go.Proofs.YtdlpgoackmgdkaaGreatDoor
