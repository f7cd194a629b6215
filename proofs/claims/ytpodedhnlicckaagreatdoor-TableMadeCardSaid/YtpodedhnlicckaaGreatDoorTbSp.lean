/- What the library gives: a text's parts, its head, its digits; the reader's digits and point. -/
import Derived.Test.YtpodedhnlicckaaGreatDoorTbNr
import Derived.Lib.SplitLaws
import Derived.Lib.IndexBytes
import Derived.Lib.AtoiErrMem
namespace Go.Proofs.YtpodedhnlicckaaGreatDoor
open Go.Shelf Go.RowKit Go.Sort
set_option linter.unusedVariables false
set_option linter.unusedSimpArgs false
theorem size_list (s : ByteArray) : s.data.toList.length = s.size := Array.length_toList
def bytesOf (l : List UInt8) : ByteArray := ⟨l.toArray⟩
theorem bytesOf_data (l : List UInt8) : (bytesOf l).data.toList = l := by simp [bytesOf]
theorem bytesOf_of (s : ByteArray) : bytesOf s.data.toList = s := by obtain ⟨⟨l⟩⟩ := s; rfl
theorem bytesOf_size (l : List UInt8) : (bytesOf l).size = l.length := by show l.toArray.size = _; simp
theorem map_bytes {bs : List ByteArray} {ls : List (List UInt8)} (h : bs.map (·.data.toList) = ls) : bs = ls.map bytesOf := by
  rw [← h, List.map_map]
  conv => lhs; rw [← List.map_id bs]
  apply List.map_congr_left
  intro b _
  exact (bytesOf_of b).symm
theorem index_cases (s : List UInt8) (c : UInt8) : (Lib.index s [c] = -1 ∧ c ∉ s) ∨ ∃ p r, s = p ++ c :: r ∧ c ∉ p ∧ Lib.index s [c] = (p.length : Int) := by
  induction s with
  | nil => left; rw [Lib.index_one]; exact ⟨rfl, by simp⟩
  | cons b l ih =>
    rw [Lib.index_one] at ih ⊢
    unfold Lib.indexByte
    by_cases hb : b = c
    · subst hb
      right
      exact ⟨[], l, rfl, List.not_mem_nil, by simp⟩
    · rw [if_neg (by simpa using hb)]
      rcases ih with ⟨h1, h2⟩ | ⟨p, r, h1, h2, h3⟩
      · left
        rw [h1]
        refine ⟨rfl, ?_⟩
        rw [List.mem_cons, not_or]; exact ⟨fun e => hb e.symm, h2⟩
      · right
        refine ⟨b :: p, r, by rw [h1]; rfl, ?_, ?_⟩
        · rw [List.mem_cons, not_or]; exact ⟨fun e => hb e.symm, h2⟩
        · rw [h3, if_neg (by simp), List.length_cons]; omega
theorem splitK_part (c : UInt8) : ∀ (n : Nat) (s : List UInt8), s.length ≤ n → Lib.splitK [c] 0 (Lib.count s [c]) s = partL c s
  | n, s, hn => by
    rcases index_cases s c with ⟨h1, h2⟩ | ⟨p, r, h1, h2, h3⟩
    · rw [Lib.count_miss h1, partL_last c s h2]; rfl
    · rw [Lib.count_hit (by simp) h3, Nat.add_comm]
      unfold Lib.splitK
      rw [if_neg (by rw [h3]; simp), h3]
      have e1 : s.take (((p.length : Int)).toNat + 0) = p := by rw [h1]; simp
      have e2 : s.drop (((p.length : Int)).toNat + [c].length) = r := by
        rw [h1]; simp
      have e3 : s.drop (p.length + [c].length) = r := by rw [h1]; simp
      rw [e1, e2, e3, h1, partL_front c p h2]
      cases n with
      | zero => rw [h1] at hn; simp at hn
      | succ n => rw [splitK_part c n r (by rw [h1] at hn; simp at hn; omega)]
theorem split_part (c : UInt8) (s : ByteArray) : (Lib.splitB ⟨#[c]⟩ 0 (Lib.countB s ⟨#[c]⟩) s).map (·.data.toList) = partL c s.data.toList := by
  rw [Lib.splitB_data]; exact splitK_part c _ _ (Nat.le_refl _)
/-- The library's longest needle's cell holds a number. -/
def MaxW (w : World) : Prop := ∃ m : Int, w.cell? ⟨Tryz.laysCut_ren.g 1, 0, none⟩ = some (.int .i64 m)
theorem MaxW.below {w w' : World} (h : MaxW w) (hb : Below w.heap.size w w') : MaxW w' := by
  obtain ⟨m, h1⟩ := h
  exact ⟨m, (hb.cell (Lib.lt_of_cell h1)).trans h1⟩
def wordsB (s : ByteArray) : List ByteArray := Lib.splitB ⟨#[32]⟩ 0 (Lib.countB s ⟨#[32]⟩) s
theorem wordsB_part (s : ByteArray) : wordsB s = (partL 32 s.data.toList).map bytesOf := map_bytes (split_part 32 s)
theorem wordsB_len (s : ByteArray) : (wordsB s).length = Lib.countB s ⟨#[32]⟩ + 1 := Lib.splitB_all ⟨#[32]⟩ (Nat.le_refl 1) 0 _ s rfl
theorem split_any (s : ByteArray) (w : World) (hs : s.size ≤ 524288) (hM : MaxW w) :
    Calls Tryz.prog 63 #[.string s, .string ⟨#[32]⟩] w fun e w' => e = .returned (.slice (some ⟨w.heap.size, 0, none⟩) (wordsB s).length (wordsB s).length) ∧ w' = w.alloc (.cells ((wordsB s).map Value.string).toArray 9) := by
  obtain ⟨m, hm⟩ := hM
  refine (Any.strings_Split Tryz.laysSplit (by kernel_rfl) s ⟨#[32]⟩ m w (by omega) hm (Nat.le_refl 1)).mono ?_
  rintro e w' ⟨h1, h2⟩
  exact ⟨by rw [h1, wordsB_len], h2⟩
/-- A text's head up to the first end of a line, what stands behind it; whether there is one. -/
def cutL (l : List UInt8) : List UInt8 × List UInt8 × Bool := Lib.cut l [10]
theorem cutL_hit {p r : List UInt8} (h : 10 ∉ p) : cutL (p ++ 10 :: r) = (p, r, true) := by
  unfold cutL Lib.cut
  rcases index_cases (p ++ 10 :: r) 10 with ⟨h1, h2⟩ | ⟨p', r', h1, h2, h3⟩
  · exact absurd (by simp) h2
  · have e := congrArg (partL 10) h1
    rw [partL_front 10 p h, partL_front 10 p' h2] at e
    have e1 := (List.cons.inj e).1
    subst e1
    rw [if_pos (by rw [h3]; omega), h3]
    simp
theorem cutL_miss {l : List UInt8} (h : 10 ∉ l) : cutL l = (l, [], false) := by
  unfold cutL Lib.cut
  rcases index_cases l 10 with ⟨h1, h2⟩ | ⟨p', r', h1, h2, h3⟩
  · rw [if_neg (by rw [h1]; decide)]
  · exact absurd (by rw [h1]; simp) h
theorem cut_any (s : ByteArray) (w : World) (hs : s.size ≤ 524288) (hM : MaxW w) :
    Calls Tryz.prog 31 #[.string s, .string ⟨#[10]⟩] w fun e w' => e = .returned (.tuple #[.string (bytesOf (cutL s.data.toList).1), .string (bytesOf (cutL s.data.toList).2.1), .bool (cutL s.data.toList).2.2]) ∧ ∃ n, w' = w.drewN n := by
  obtain ⟨m, hm⟩ := hM
  exact Any.strings_Cut Tryz.laysCut s ⟨#[10]⟩ m w (by omega) hm
/-! ### digits -/
def digSet : List UInt8 := [48, 49, 50, 51, 52, 53, 54, 55, 56, 57]
set_option maxRecDepth 100000 in
theorem digSet_fin : ∀ n : Fin 256, digSet.contains (UInt8.ofNat n.val) = isDig (UInt8.ofNat n.val) := by decide
theorem digSet_eq (b : UInt8) : digSet.contains b = isDig b := by
  have := digSet_fin ⟨b.toNat, UInt8.toNat_lt _⟩
  simpa using this
theorem drop_nil {p : UInt8 → Bool} (l : List UInt8) : (l.dropWhile p).isEmpty = l.all p := by
  induction l with
  | nil => rfl
  | cons b r ih =>
    rw [List.dropWhile_cons, List.all_cons]
    cases p b with
    | true => simpa using ih
    | false => rfl
theorem drop_some {p : UInt8 → Bool} (l : List UInt8) : ∀ b r, l.dropWhile p = b :: r → p b = false := by
  induction l with
  | nil => intro b r h; simp at h
  | cons x l ih =>
    intro b r h
    rw [List.dropWhile_cons] at h
    cases hx : p x with
    | true => rw [hx] at h; exact ih b r h
    | false => rw [hx] at h; obtain ⟨rfl, _⟩ := List.cons.inj h; exact hx
theorem drop_all {p : UInt8 → Bool} : ∀ {l : List UInt8}, l.all p = true → l.dropWhile p = []
  | [], _ => rfl
  | b :: r, h => by
    rw [List.all_cons, Bool.and_eq_true] at h
    rw [List.dropWhile_cons, h.1]; exact drop_all h.2
theorem trim_nil (l : List UInt8) : (Lib.trimS l digSet).isEmpty = l.all isDig := by
  unfold Lib.trimS Lib.trimLeftS Lib.trimRightS
  have hp : (fun x => digSet.contains x) = isDig := funext digSet_eq
  rw [hp]
  cases ha : l.all isDig with
  | true =>
    have : l.reverse.all isDig = true := by rw [List.all_reverse]; exact ha
    rw [drop_all this]; rfl
  | false =>
    rw [drop_nil]
    cases hd : l.reverse.dropWhile isDig with
    | nil =>
      have := drop_nil (p := isDig) l.reverse
      rw [hd, List.all_reverse, ha] at this
      simp at this
    | cons b r =>
      have := drop_some _ b r hd
      rw [List.all_reverse, List.all_cons, this]; rfl
def trimB (s : ByteArray) : ByteArray := ⟨(Lib.trimS s.data.toList digSet).toArray⟩
theorem trimB_empty (s : ByteArray) : (trimB s).toList.isEmpty = s.data.toList.all isDig := by
  rw [ByteArray.toList_eq, ← trim_nil]; rfl
theorem trim_any (s : ByteArray) (w : World) (hs : s.size ≤ 9223372036854775807) :
    Calls Tryz.prog 93 #[.string s, .string { data := #[48, 49, 50, 51, 52, 53, 54, 55, 56, 57] }] w fun e w' => e = .returned (.string (trimB s)) ∧ Below w.heap.size w w' :=
  Any.strings_Trim_laid Tryz.laysTrim (by kernel_rfl) s ⟨digSet.toArray⟩ w hs (by decide) (ascii_of_all (by decide))
theorem decFrom_val : ∀ (l : List UInt8) (acc : Nat), l.all isDig = true → Lib.decFrom acc l = some (l.foldl (fun a b => 10 * a + (b.toNat - 48)) acc)
  | [], acc, _ => rfl
  | b :: r, acc, h => by
    rw [List.all_cons, Bool.and_eq_true] at h
    have hb : 48 ≤ b.toNat ∧ b.toNat ≤ 57 := by have := h.1; unfold isDig at this; simpa using this
    rw [Lib.decFrom]
    unfold Lib.digitVal
    rw [if_pos hb]
    show Lib.decFrom (acc * 10 + (b.toNat - 48)) r = _
    rw [decFrom_val r _ h.2, List.foldl_cons, Nat.mul_comm]
theorem atoi_dig {l : List UInt8} (h0 : l ≠ []) (h : l.all isDig = true) : Lib.atoi l = some ((valD l : Nat) : Int) := by
  cases l with
  | nil => exact absurd rfl h0
  | cons b r =>
    have hb : 48 ≤ b.toNat ∧ b.toNat ≤ 57 := by
      have := h
      rw [List.all_cons, Bool.and_eq_true] at this
      have := this.1; unfold isDig at this; simpa using this
    show (if (b == 45) = true then (Lib.decNat r).map fun (m : Nat) => -(m : Int) else if (b == 43) = true then (Lib.decNat r).map fun (m : Nat) => (m : Int) else (Lib.decNat (b :: r)).map fun (m : Nat) => (m : Int)) = _
    rw [if_neg (by intro e; have e : b = 45 := beq_iff_eq.1 e; subst e; exact absurd hb.1 (by decide)), if_neg (by intro e; have e : b = 43 := beq_iff_eq.1 e; subst e; exact absurd hb.1 (by decide))]
    unfold Lib.decNat
    rw [if_neg (by simp), decFrom_val _ _ h]; rfl
theorem valD_lt : ∀ (l : List UInt8), l.all isDig = true → valD l < 10 ^ l.length := by
  intro l
  have H : ∀ (l : List UInt8) (acc : Nat), l.all isDig = true → l.foldl (fun a b => 10 * a + (b.toNat - 48)) acc < (acc + 1) * 10 ^ l.length := by
    intro l
    induction l with
    | nil => intro acc _; simp
    | cons b r ih =>
      intro acc h
      rw [List.all_cons, Bool.and_eq_true] at h
      have hb := dig_lt h.1
      have := ih (10 * acc + (b.toNat - 48)) h.2
      rw [List.foldl_cons, List.length_cons, Nat.pow_succ]
      refine Nat.lt_of_lt_of_le this ?_
      rw [Nat.mul_comm (10 ^ r.length) 10, ← Nat.mul_assoc]
      exact Nat.mul_le_mul_right _ (by omega)
  intro h
  have := H l 0 h
  simpa [valD] using this
/-- What digits tells: the number, and whether it may be. -/
def digS (l : List UInt8) : Nat × Bool :=
  if l.length = 0 ∨ 5 < l.length ∨ (1 < l.length ∧ l.head? = some 48) ∨ l.all isDig = false then (0, false) else (valD l, decide (valD l ≤ 65535))
theorem digS_no {l : List UInt8} (h : l.length = 0 ∨ 5 < l.length ∨ (1 < l.length ∧ l.head? = some 48) ∨ l.all isDig = false) : digS l = (0, false) := by unfold digS; rw [if_pos h]
theorem digS_yes {l : List UInt8} (h1 : l.length ≠ 0) (h2 : l.length ≤ 5) (h3 : ¬ (1 < l.length ∧ l.head? = some 48)) (h4 : l.all isDig = true) : digS l = (valD l, decide (valD l ≤ 65535)) := by
  unfold digS
  rw [if_neg]
  rintro (h | h | h | h)
  · exact h1 h
  · omega
  · exact h3 h
  · rw [h4] at h; cases h
theorem digS_num (l : List UInt8) : numT l = if (digS l).2 = true then some (digS l).1 else none := by
  by_cases h : 0 < l.length ∧ l.length ≤ 5 ∧ ¬ (1 < l.length ∧ l.head? = some 48) ∧ l.all isDig = true
  · rw [digS_yes (by omega) h.2.1 h.2.2.1 h.2.2.2]
    unfold numT
    rw [if_pos h]
    by_cases hv : valD l ≤ 65535
    · rw [decide_eq_true hv]
      simp only [if_pos hv]; rfl
    · rw [decide_eq_false hv]
      simp only [if_neg hv]; rfl
  · have hd : digS l = (0, false) := by
      apply digS_no
      by_cases h1 : l.length = 0
      · exact .inl h1
      · by_cases h2 : 5 < l.length
        · exact .inr (.inl h2)
        · by_cases h3 : 1 < l.length ∧ l.head? = some 48
          · exact .inr (.inr (.inl h3))
          · refine .inr (.inr (.inr ?_))
            cases ha : l.all isDig with
            | false => rfl
            | true => exact absurd ⟨by omega, by omega, h3, ha⟩ h
    rw [hd]
    unfold numT
    rw [if_neg h]; rfl
theorem digS_lt (l : List UInt8) : (digS l).1 < 100000 := by
  unfold digS
  by_cases h : l.length = 0 ∨ 5 < l.length ∨ (1 < l.length ∧ l.head? = some 48) ∨ l.all isDig = false
  · rw [if_pos h]; decide
  · rw [if_neg h]
    have ha : l.all isDig = true := by
      cases ha : l.all isDig with
      | true => rfl
      | false => exact absurd (.inr (.inr (.inr ha))) h
    have h5 : l.length ≤ 5 := by
      apply Nat.le_of_not_lt
      intro h5
      exact h (.inr (.inl h5))
    refine Nat.lt_of_lt_of_le (valD_lt l ha) ?_
    exact Nat.pow_le_pow_right (by decide) h5
theorem byteN_head {s : ByteArray} (h : 0 < s.size) : s.data.toList.head? = some (UInt8.ofNat (byteN s 0)) := by
  rw [← size_list] at h
  unfold byteN
  cases hl : s.data.toList with
  | nil => rw [hl] at h; simp at h
  | cons b r => simp
def DigP (s : ByteArray) (w : World) (e : Ending) (w' : World) : Prop := e = .returned (.tuple #[.int .i64 (((digS s.data.toList).1 : Nat) : Int), .bool (digS s.data.toList).2]) ∧ Below w.heap.size w w'
theorem empty_no {s : ByteArray} (h : 0 < s.size) : s.toList.isEmpty = false := by
  rw [ByteArray.toList_eq]
  rw [← size_list] at h
  cases hl : s.data.toList with
  | nil => rw [hl] at h; simp at h
  | cons b r => rfl
set_option maxHeartbeats 2000000 in
set_option maxRecDepth 100000 in
theorem digits_any (s : ByteArray) (w : World) (hs : s.size ≤ 9223372036854775807) : Calls Tryz.prog 67 #[.string s] w (DigP s w) := by
  have HZ : Hid (s.data.toList.length = s.size) := size_list s
  by_cases h0 : s.size = 0
  · have HD : Hid (digS s.data.toList = (0, false)) := digS_no (.inl (by rw [size_list]; exact h0))
    have t0 : ((s.size : Int) == 0) = true := beq_iff_eq.2 (by omega)
    clear h0
    go_enter Tryz.func67, Tryz.ntmps67
    go_wp2_with fail
    go_ret2
    exact ⟨by rw [HD.out]; rfl, Below.refl _ _⟩
  have t0 : ((s.size : Int) == 0) = false := beq_eq_false_iff_ne.2 (by omega)
  by_cases h5 : 5 < s.size
  · have HD : Hid (digS s.data.toList = (0, false)) := digS_no (.inr (.inl (by rw [size_list]; exact h5)))
    have t5 : decide ((5 : Int) < (s.size : Int)) = true := decide_eq_true (by omega)
    clear h0
    go_enter Tryz.func67, Tryz.ntmps67
    go_wp2_with fail
    go_ret2
    exact ⟨by rw [HD.out]; rfl, Below.refl _ _⟩
  have t5 : decide ((5 : Int) < (s.size : Int)) = false := decide_eq_false (by omega)
  have hi : ∀ W, (Instr.index 9 (.string s) (.int .i64 0)).run Tryz.prog W = .ok (.int .u8 ((byteN s 0 : Nat) : Int)) W := fun W => index_str s 0 (Nat.pos_of_ne_zero h0) 9 Tryz.underlying9 W
  by_cases h3 : 1 < s.size ∧ byteN s 0 = 48
  · have HD : Hid (digS s.data.toList = (0, false)) := digS_no (.inr (.inr (.inl ⟨by rw [size_list]; exact h3.1, by rw [byteN_head (by omega), h3.2]; rfl⟩)))
    obtain ⟨h3, h4⟩ := h3
    have t1 : decide ((1 : Int) < (s.size : Int)) = true := decide_eq_true (by omega)
    have t4 : (((byteN s 0 : Nat) : Int) == 48) = true := beq_iff_eq.2 (by omega)
    clear h0 h4
    generalize byteN s 0 = b0 at *
    go_enter Tryz.func67, Tryz.ntmps67
    go_wp2_with fail
    go_ret2
    exact ⟨by rw [HD.out]; rfl, Below.refl _ _⟩
  have h3' : ¬ (1 < s.data.toList.length ∧ s.data.toList.head? = some 48) := by
    rintro ⟨h1, h2⟩
    rw [size_list] at h1
    rw [byteN_head (by omega)] at h2
    refine h3 ⟨h1, ?_⟩
    have := congrArg UInt8.toNat (Option.some.inj h2)
    have hb := byteN_lt s 0
    simpa [Nat.mod_eq_of_lt hb] using this
  have HT := Lib.hid (fun W => trim_any s W hs)
  have HTE : Hid ((trimB s).toList.isEmpty = s.data.toList.all isDig) := trimB_empty s
  cases ha : s.data.toList.all isDig with
  | false =>
    have HD : Hid (digS s.data.toList = (0, false)) := digS_no (.inr (.inr (.inr ha)))
    have t6 : (trimB s).toList.isEmpty = false := by rw [HTE.out]; exact ha
    clear HTE ha h3'
    generalize trimB s = tb at *
    by_cases h1 : 1 < s.size
    · have t1 : decide ((1 : Int) < (s.size : Int)) = true := decide_eq_true (by omega)
      have t4 : (((byteN s 0 : Nat) : Int) == 48) = false := beq_eq_false_iff_ne.2 (fun e => h3 ⟨h1, by omega⟩)
      clear h0 h3
      generalize byteN s 0 = b0 at *
      go_enter Tryz.func67, Tryz.ntmps67
      go_wp2_with fail
      refine (HT.out _).mono ?_
      rintro e w1 ⟨rfl, hb⟩
      have HB := Lib.hid hb
      clear hb HT
      go_wp2_with fail
      go_ret2
      exact ⟨by rw [HD.out]; rfl, HB.out⟩
    · have t1 : decide ((1 : Int) < (s.size : Int)) = false := decide_eq_false (by omega)
      clear h0 h3
      generalize byteN s 0 = b0 at *
      go_enter Tryz.func67, Tryz.ntmps67
      go_wp2_with fail
      refine (HT.out _).mono ?_
      rintro e w1 ⟨rfl, hb⟩
      have HB := Lib.hid hb
      clear hb HT
      go_wp2_with fail
      go_ret2
      exact ⟨by rw [HD.out]; rfl, HB.out⟩
  | true =>
    have HD : Hid (digS s.data.toList = (valD s.data.toList, decide (valD s.data.toList ≤ 65535))) := digS_yes (by rw [size_list]; exact h0) (by rw [size_list]; omega) h3' ha
    have hv : valD s.data.toList < 100000 := by have := digS_lt s.data.toList; rw [HD.out] at this; exact this
    have t6 : (trimB s).toList.isEmpty = true := by rw [HTE.out]; exact ha
    have HA := Lib.hid (fun W => Any.strconv_Atoi Tryz.laysAtoi s ((valD s.data.toList : Nat) : Int) (by omega) (atoi_dig (by intro e; rw [← size_list, e] at h0; exact h0 rfl) ha) W)
    clear HTE ha h3'
    generalize trimB s = tb at *
    generalize valD s.data.toList = v at *
    have HFIN : Hid (∀ b : Bool, b = decide (v ≤ 65535) → ∀ W, Below w.heap.size w W → DigP s w (.returned (.tuple #[.int .i64 (v : Int), .bool b])) W) := fun b hb W hW => ⟨by rw [HD.out, hb], hW⟩
    by_cases h1 : 1 < s.size
    · have t1 : decide ((1 : Int) < (s.size : Int)) = true := decide_eq_true (by omega)
      have t4 : (((byteN s 0 : Nat) : Int) == 48) = false := beq_eq_false_iff_ne.2 (fun e => h3 ⟨h1, by omega⟩)
      clear h0 h3
      generalize byteN s 0 = b0 at *
      go_enter Tryz.func67, Tryz.ntmps67
      go_wp2_with fail
      refine (HT.out _).mono ?_
      rintro e w1 ⟨rfl, hb⟩
      have HB := Lib.hid hb
      clear hb HT
      go_wp2_with fail
      refine (HA.out _).mono ?_
      rintro e w2 ⟨rfl, tt, hw2⟩
      have HB2 : Hid (Below w.heap.size w w2) := by show Below _ _ _; rw [hw2]; exact HB.out.trans ((Lib.bytesWorld_below _ _ _).mono HB.out.size)
      clear hw2
      go_wp2_with fail
      go_ret2
      exact HFIN.out _ (decide_eq_decide.2 (by omega)) _ HB2.out
    · have t1 : decide ((1 : Int) < (s.size : Int)) = false := decide_eq_false (by omega)
      clear h0 h3
      generalize byteN s 0 = b0 at *
      go_enter Tryz.func67, Tryz.ntmps67
      go_wp2_with fail
      refine (HT.out _).mono ?_
      rintro e w1 ⟨rfl, hb⟩
      have HB := Lib.hid hb
      clear hb HT
      go_wp2_with fail
      refine (HA.out _).mono ?_
      rintro e w2 ⟨rfl, tt, hw2⟩
      have HB2 : Hid (Below w.heap.size w w2) := by show Below _ _ _; rw [hw2]; exact HB.out.trans ((Lib.bytesWorld_below _ _ _).mono HB.out.size)
      clear hw2
      go_wp2_with fail
      go_ret2
      exact HFIN.out _ (decide_eq_decide.2 (by omega)) _ HB2.out
end Go.Proofs.YtpodedhnlicckaaGreatDoor
