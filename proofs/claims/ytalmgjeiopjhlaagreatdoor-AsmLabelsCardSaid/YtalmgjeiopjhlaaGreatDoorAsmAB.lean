/- Lines of a program: the plain words; label, May, and the document's. -/
import Derived.Test.YtalmgjeiopjhlaaGreatDoorIsaTx
import Derived.Test.YtalmgjeiopjhlaaGreatDoorIsaJ
import Derived.Test.YtalmgjeiopjhlaaGreatDoorIsaRMay
import Derived.Test.YtalmgjeiopjhlaaGreatDoorAsmLay
namespace Go.Proofs.YtalmgjeiopjhlaaGreatDoor
open Go.Shelf Go.RowKit
set_option linter.unusedVariables false
set_option linter.unusedSimpArgs false
def isLab (b : UInt8) : Bool := isLet b || isDig b || b == 95
def labL : List UInt8 → Bool
  | [] => false
  | b :: r => decide (r.length ≤ 15) && isLet b && r.all isLab
def labelB (s : ByteArray) : Bool := labL s.data.toList
theorem size_list (s : ByteArray) : s.data.toList.length = s.size := Array.length_toList
theorem labL_cons (b : UInt8) (r : List UInt8) : labL (b :: r) = (decide (r.length ≤ 15) && isLet b && r.all isLab) := rfl
theorem labelB_0 {s : ByteArray} (h : s.size = 0) : labelB s = false := by
  rw [← size_list] at h; unfold labelB; rw [List.length_eq_zero_iff.1 h]; rfl
theorem labelB_big {s : ByteArray} (h : 16 < s.size) : labelB s = false := by
  rw [← size_list] at h; unfold labelB
  generalize s.data.toList = l at *
  cases l with
  | nil => rfl
  | cons b r => rw [labL_cons]; simp at h; rw [decide_eq_false (by omega)]; rfl
theorem byteN_0 {s : ByteArray} {b : UInt8} {r : List UInt8} (h : s.data.toList = b :: r) : byteN s 0 = b.toNat := by unfold byteN; rw [h]; rfl
theorem labelB_head {s : ByteArray} (h0 : 0 < s.size) (h : byteN s 0 < 97 ∨ 122 < byteN s 0) : labelB s = false := by
  rw [← size_list] at h0; unfold labelB
  cases hl : s.data.toList with
  | nil => rw [hl] at h0; simp at h0
  | cons b r =>
    rw [byteN_0 hl] at h
    rw [labL_cons]; unfold isLet
    rcases h with h | h
    · rw [decide_eq_false (show ¬ 97 ≤ b.toNat by omega)]; simp
    · rw [decide_eq_false (show ¬ b.toNat ≤ 122 by omega)]; simp
theorem labelB_else {s : ByteArray} (h0 : 0 < s.size) (h1 : ¬ 16 < s.size) (h2 : ¬ byteN s 0 < 97) (h3 : ¬ 122 < byteN s 0) : labelB s = s.data.toList.all isLab := by
  rw [← size_list] at h0 h1; unfold labelB
  cases hl : s.data.toList with
  | nil => rw [hl] at h0; simp at h0
  | cons b r =>
    rw [byteN_0 hl] at h2 h3
    rw [hl] at h1; simp at h1
    have e1 : isLet b = true := by unfold isLet; simp; omega
    rw [labL_cons, decide_eq_true (by omega), e1, List.all_cons, show isLab b = true by unfold isLab; rw [e1]; rfl]; rfl
def labSet : List UInt8 := [97, 98, 99, 100, 101, 102, 103, 104, 105, 106, 107, 108, 109, 110, 111, 112, 113, 114, 115, 116, 117, 118, 119, 120, 121, 122, 48, 49, 50, 51, 52, 53, 54, 55, 56, 57, 95]
set_option maxRecDepth 100000 in
theorem labSet_fin : ∀ n : Fin 256, labSet.contains (UInt8.ofNat n.val) = isLab (UInt8.ofNat n.val) := by decide
theorem labSet_eq (b : UInt8) : labSet.contains b = isLab b := by
  have := labSet_fin ⟨b.toNat, UInt8.toNat_lt _⟩
  simpa using this
theorem drop_nil {p : UInt8 → Bool} (l : List UInt8) : (l.dropWhile p).isEmpty = l.all p := by
  induction l with
  | nil => rfl
  | cons b r ih =>
    rw [List.dropWhile_cons, List.all_cons]
    cases p b with
    | true => simpa using ih
    | false => rfl
theorem drop_some {p : UInt8 → Bool} (l : List UInt8) : ∀ b r, l.dropWhile p = b :: r → p b = false := by
  induction l with
  | nil => intro b r h; simp at h
  | cons x l ih =>
    intro b r h
    rw [List.dropWhile_cons] at h
    cases hx : p x with
    | true => rw [hx] at h; exact ih b r h
    | false => rw [hx] at h; obtain ⟨rfl, _⟩ := List.cons.inj h; exact hx
theorem drop_all {p : UInt8 → Bool} : ∀ {l : List UInt8}, l.all p = true → l.dropWhile p = []
  | [], _ => rfl
  | b :: r, h => by
    rw [List.all_cons, Bool.and_eq_true] at h
    rw [List.dropWhile_cons, h.1]; exact drop_all h.2
theorem trim_nil (l : List UInt8) : (Lib.trimS l labSet).isEmpty = l.all isLab := by
  unfold Lib.trimS Lib.trimLeftS Lib.trimRightS
  have hp : (fun x => labSet.contains x) = isLab := funext labSet_eq
  rw [hp]
  cases ha : l.all isLab with
  | true =>
    have : l.reverse.all isLab = true := by rw [List.all_reverse]; exact ha
    rw [drop_all this]; rfl
  | false =>
    rw [drop_nil]
    cases hd : l.reverse.dropWhile isLab with
    | nil =>
      have := drop_nil (p := isLab) l.reverse
      rw [hd, List.all_reverse, ha] at this
      simp at this
    | cons b r =>
      have := drop_some _ b r hd
      rw [List.all_reverse, List.all_cons, this]; rfl
theorem trim_eq (s : ByteArray) : (⟨(Lib.trimS s.data.toList labSet).toArray⟩ : ByteArray).toList.isEmpty = s.data.toList.all isLab := by
  rw [ByteArray.toList_eq, ← trim_nil]
theorem empty_no {s : ByteArray} (h : 0 < s.size) : s.toList.isEmpty = false := by
  rw [ByteArray.toList_eq]
  rw [← size_list] at h
  cases hl : s.data.toList with
  | nil => rw [hl] at h; simp at h
  | cons b r => rfl
theorem empty_is {s : ByteArray} (h : s.size = 0) : s.toList.isEmpty = true := by
  rw [ByteArray.toList_eq]
  rw [← size_list] at h
  rw [List.length_eq_zero_iff.1 h]; rfl
theorem trim_any (s : ByteArray) (w : World) (hs : s.size ≤ 9223372036854775807) :
    Calls Tryz.prog 49 #[.string s, .string { data := #[97, 98, 99, 100, 101, 102, 103, 104, 105, 106, 107, 108, 109, 110, 111, 112, 113, 114, 115, 116, 117, 118, 119, 120, 121, 122, 48, 49, 50, 51, 52, 53, 54, 55, 56, 57, 95] }] w fun e w' => e = .returned (.string ⟨(Lib.trimS s.data.toList labSet).toArray⟩) ∧ Below w.heap.size w w' :=
  Any.strings_Trim_laid Tryz.laysTrim (by kernel_rfl) s ⟨labSet.toArray⟩ w hs (by decide) (ascii_of_all (by decide))
set_option maxRecDepth 100000 in
theorem label_any (s : ByteArray) (w : World) (hs : s.size ≤ 9223372036854775807) : Calls Tryz.prog 26 #[.string s] w fun e w' => e = .returned (.bool (labelB s)) ∧ Below w.heap.size w w' := by
  by_cases h0 : s.size = 0
  · rw [labelB_0 h0]
    have te := empty_is h0
    go_enter Tryz.func26, Tryz.ntmps26
    go_wp2_with fail
    go_ret
    exact ⟨rfl, Below.refl _ _⟩
  have te := empty_no (Nat.pos_of_ne_zero h0)
  by_cases h1 : 16 < s.size
  · rw [labelB_big h1]
    have t1 : decide ((16 : Int) < (s.size : Int)) = true := decide_eq_true (by omega)
    go_enter Tryz.func26, Tryz.ntmps26
    go_wp2_with fail
    go_ret
    exact ⟨rfl, Below.refl _ _⟩
  have t1 : decide ((16 : Int) < (s.size : Int)) = false := decide_eq_false (by omega)
  have hi : ∀ W, (Instr.index 9 (.string s) (.int .i64 0)).run Tryz.prog W = .ok (.int .u8 ((byteN s 0 : Nat) : Int)) W := fun W => index_str s 0 (Nat.pos_of_ne_zero h0) 9 Tryz.underlying9 W
  by_cases h2 : byteN s 0 < 97
  · rw [labelB_head (Nat.pos_of_ne_zero h0) (.inl h2)]
    have t2 : decide (((byteN s 0 : Nat) : Int) < 97) = true := decide_eq_true (by omega)
    go_enter Tryz.func26, Tryz.ntmps26
    go_wp2_with fail
    go_ret
    exact ⟨rfl, Below.refl _ _⟩
  have t2 : decide (((byteN s 0 : Nat) : Int) < 97) = false := decide_eq_false (by omega)
  by_cases h3 : 122 < byteN s 0
  · rw [labelB_head (Nat.pos_of_ne_zero h0) (.inr h3)]
    have t3 : decide ((122 : Int) < ((byteN s 0 : Nat) : Int)) = true := decide_eq_true (by omega)
    go_enter Tryz.func26, Tryz.ntmps26
    go_wp2_with fail
    go_ret
    exact ⟨rfl, Below.refl _ _⟩
  have t3 : decide ((122 : Int) < ((byteN s 0 : Nat) : Int)) = false := decide_eq_false (by omega)
  rw [labelB_else (Nat.pos_of_ne_zero h0) h1 h2 h3]
  have HT := Lib.hid (trim_any s w hs)
  have HE := trim_eq s
  generalize (⟨(Lib.trimS s.data.toList labSet).toArray⟩ : ByteArray) = tr at *
  generalize s.data.toList.all isLab = B at *
  clear h0 h1 h2 h3
  go_enter Tryz.func26, Tryz.ntmps26
  go_wp2_with fail
  refine HT.out.mono ?_
  rintro e w' ⟨rfl, hb⟩
  have HB := Lib.hid hb
  clear hb
  go_wp2_with fail
  go_ret
  exact ⟨rfl, HB.out⟩
end Go.Proofs.YtalmgjeiopjhlaaGreatDoor
/- The document's Label; May of a line, and the document's. -/
namespace Go.Proofs.YtalmgjeiopjhlaaGreatDoor
open Go.Shelf Go.RowKit
set_option linter.unusedVariables false
set_option linter.unusedSimpArgs false
def okAt (s : ByteArray) (j : Nat) : Bool := (decide (97 ≤ byteN s j) && decide (byteN s j ≤ 122)) || (decide (j ≠ 0) && (decide (byteN s j = 95) || decide (48 ≤ byteN s j) && decide (byteN s j ≤ 57)))
theorem u8_95 (b : UInt8) : (b == 95) = decide (b.toNat = 95) := by
  by_cases h : b = 95
  · subst h; rfl
  · rw [beq_eq_false_iff_ne.2 h]
    symm; apply decide_eq_false
    intro e; exact h (UInt8.toNat_inj.1 e)
theorem isLab_eq (b : UInt8) : isLab b = ((decide (97 ≤ b.toNat) && decide (b.toNat ≤ 122)) || (decide (b.toNat = 95) || decide (48 ≤ b.toNat) && decide (b.toNat ≤ 57))) := by
  unfold isLab isLet isDig
  rw [u8_95, Bool.or_assoc]
  congr 1
  rw [Bool.or_comm]
theorem byteN_get {s : ByteArray} {l : List UInt8} (h : s.data.toList = l) (j : Nat) (hj : j < l.length) : byteN s j = l[j].toNat := by
  unfold byteN; rw [h, List.getD_eq_getElem?_getD, List.getElem?_eq_getElem hj]; rfl
theorem label_iff (s : ByteArray) : labelB s = true ↔ 0 < s.size ∧ s.size ≤ 16 ∧ ∀ j, j < s.size → okAt s j = true := by
  rw [← size_list]; unfold labelB
  cases hl : s.data.toList with
  | nil => simp [labL]
  | cons b r =>
    rw [labL_cons]
    simp only [Bool.and_eq_true, decide_eq_true_eq, List.length_cons]
    have hb := byteN_0 hl
    constructor
    · rintro ⟨⟨h1, h2⟩, h3⟩
      refine ⟨by omega, by omega, fun j hj => ?_⟩
      cases j with
      | zero => unfold okAt; rw [hb]; unfold isLet at h2; rw [h2]; rfl
      | succ j =>
        have hj' : j < r.length := by omega
        have e := byteN_get hl (j + 1) (by simpa using hj)
        have := List.all_eq_true.1 h3 _ (List.getElem_mem hj')
        rw [isLab_eq] at this
        unfold okAt; rw [e]
        rw [decide_eq_true (Nat.succ_ne_zero j), Bool.true_and]
        simpa using this
    · rintro ⟨_, h2, h3⟩
      refine ⟨⟨by omega, ?_⟩, List.all_eq_true.2 fun x hx => ?_⟩
      · have := h3 0 (by omega)
        unfold okAt at this; rw [hb] at this
        unfold isLet; simpa using this
      · obtain ⟨j, hj, rfl⟩ := List.mem_iff_getElem.1 hx
        have e := byteN_get hl (j + 1) (by simpa using hj)
        have := h3 (j + 1) (by omega)
        unfold okAt at this; rw [e] at this
        rw [decide_eq_true (Nat.succ_ne_zero j), Bool.true_and] at this
        rw [isLab_eq]; simpa using this
theorem label_no {s : ByteArray} {j : Nat} (hj : j < s.size) (h : okAt s j = false) : labelB s = false := by
  cases hb : labelB s with
  | false => rfl
  | true => rw [((label_iff s).1 hb).2.2 j hj] at h; cases h
set_option maxRecDepth 100000 in
theorem rlabel_any (s : ByteArray) (w : World) (hs : s.size ≤ 9223372036854775807) : Calls Tryz.prog 29 #[.string s] w fun e w' => e = .returned (.bool (labelB s)) ∧ w' = w := by
  by_cases h0 : s.size = 0
  · rw [labelB_0 h0]
    have te : ((s.size : Int) == 0) = true := by rw [h0]; rfl
    go_enter Tryz.func29, Tryz.ntmps29
    go_wp2_with fail
    go_ret
    exact ⟨rfl, rfl⟩
  have te : ((s.size : Int) == 0) = false := beq_eq_false_iff_ne.2 (by omega)
  by_cases h1 : 16 < s.size
  · rw [labelB_big h1]
    have t1 : decide ((16 : Int) < (s.size : Int)) = true := decide_eq_true (by omega)
    go_enter Tryz.func29, Tryz.ntmps29
    go_wp2_with fail
    go_ret
    exact ⟨rfl, rfl⟩
  have t1 : decide ((16 : Int) < (s.size : Int)) = false := decide_eq_false (by omega)
  have HI : ∀ k, k < s.size → ∀ W, (Instr.index 9 (.string s) (.int .i64 (k : Int))).run Tryz.prog W = .ok (.int .u8 ((byteN s k : Nat) : Int)) W := fun k hk W => index_str s k hk 9 Tryz.underlying9 W
  generalize hsz : s.size = sz at *
  go_enter Tryz.func29, Tryz.ntmps29
  go_wp2_with fail
  go_loopw [3] (fun i wr => ∃ k : Nat, k ≤ sz ∧ i = .int .i64 (k : Int) ∧ wr = w ∧ Hid (∀ j, j < k → okAt s j = true)) (fun i _ => sz - (intOf i).toNat)
  case atStart => exact ⟨0, Nat.zero_le _, rfl, rfl, fun j hj => absurd hj (by omega)⟩
  case round =>
    obtain ⟨k, hk, rfl, rfl, HS⟩ := hrel
    rcases Nat.lt_or_ge k sz with hk2 | hk2
    case inr =>
      obtain rfl : k = sz := by omega
      have t2 : decide ((k : Int) < (k : Int)) = false := by simp
      have HL : labelB s = true := (label_iff s).2 ⟨by omega, by omega, fun j hj => HS.out j (by omega)⟩
      clear HS HI
      go_wp2_with fail
      go_ret
      exact ⟨by rw [HL]; rfl, rfl⟩
    have t2 : decide ((k : Int) < (sz : Int)) = true := decide_eq_true (by omega)
    have hi := HI k hk2
    have hx := byteN_lt s k
    generalize hgx : byteN s k = x at hi hx
    have HOKE : okAt s k = ((decide (97 ≤ x) && decide (x ≤ 122)) || (decide (k ≠ 0) && (decide (x = 95) || decide (48 ≤ x) && decide (x ≤ 57)))) := by unfold okAt; rw [hgx]
    rw [← hsz] at hk2
    clear HI hgx
    by_cases hs1 : 97 ≤ x ∧ x ≤ 122
    · have q1 : decide ((97 : Int) ≤ (x : Int)) = true := decide_eq_true (by omega)
      have q2 : decide ((x : Int) ≤ 122) = true := decide_eq_true (by omega)
      have HOK : okAt s k = true := by rw [HOKE]; simp; omega
      clear HOKE hs1
      go_wp2_with fail
      refine ⟨⟨k + 1, by omega, by go_num, True.intro, fun j hj => by rcases Nat.lt_succ_iff_lt_or_eq.1 hj with h | rfl <;> first | exact HS.out _ h | exact HOK⟩, ?_⟩
      simp [intOf]; omega
    have hsm : (decide ((97 : Int) ≤ (x : Int)) = true ∧ decide ((x : Int) ≤ 122) = false) ∨ decide ((97 : Int) ≤ (x : Int)) = false := by simp; omega
    by_cases hk0 : k = 0
    · subst hk0
      have hi0 : ∀ W, (Instr.index 9 (.string s) (.int .i64 0)).run Tryz.prog W = .ok (.int .u8 (x : Int)) W := hi
      have HOK : okAt s 0 = false := by rw [HOKE]; simp; omega
      clear HOKE hs1
      rcases hsm with ⟨q1, q2⟩ | q1
      · skip
        go_wp2_with fail
        go_ret
        exact ⟨by rw [label_no hk2 HOK]; rfl, rfl⟩
      · skip
        go_wp2_with fail
        go_ret
        exact ⟨by rw [label_no hk2 HOK]; rfl, rfl⟩
    have q0 : ((k : Int) == 0) = false := beq_eq_false_iff_ne.2 (by omega)
    by_cases h95 : x = 95
    · subst h95
      have HOK : okAt s k = true := by rw [HOKE]; simp; omega
      clear HOKE hs1
      rcases hsm with ⟨q1, q2⟩ | q1
      · exact absurd q1 (by decide)
      · skip
        go_wp2_with fail
        refine ⟨⟨k + 1, by omega, by go_num, True.intro, fun j hj => by rcases Nat.lt_succ_iff_lt_or_eq.1 hj with h | rfl <;> first | exact HS.out _ h | exact HOK⟩, ?_⟩
        simp [intOf]; omega
    have q3 : ((x : Int) != 95) = true := bne_iff_ne.2 (by omega)
    by_cases h48 : x < 48
    · have q4 : decide ((x : Int) < 48) = true := decide_eq_true (by omega)
      have HOK : okAt s k = false := by rw [HOKE]; simp; omega
      clear HOKE hs1
      rcases hsm with ⟨q1, q2⟩ | q1
      · skip
        go_wp2_with fail
        go_ret
        exact ⟨by rw [label_no hk2 HOK]; rfl, rfl⟩
      · skip
        go_wp2_with fail
        go_ret
        exact ⟨by rw [label_no hk2 HOK]; rfl, rfl⟩
    have q4 : decide ((x : Int) < 48) = false := decide_eq_false (by omega)
    by_cases h57 : 57 < x
    · have q5 : decide ((57 : Int) < (x : Int)) = true := decide_eq_true (by omega)
      have HOK : okAt s k = false := by rw [HOKE]; simp; omega
      clear HOKE hs1
      rcases hsm with ⟨q1, q2⟩ | q1
      · skip
        go_wp2_with fail
        go_ret
        exact ⟨by rw [label_no hk2 HOK]; rfl, rfl⟩
      · skip
        go_wp2_with fail
        go_ret
        exact ⟨by rw [label_no hk2 HOK]; rfl, rfl⟩
    have q5 : decide ((57 : Int) < (x : Int)) = false := decide_eq_false (by omega)
    have HOK : okAt s k = true := by rw [HOKE]; simp; omega
    clear HOKE hs1
    rcases hsm with ⟨q1, q2⟩ | q1
    · exfalso; simp at q1 q2; omega
    · skip
      go_wp2_with fail
      refine ⟨⟨k + 1, by omega, by go_num, True.intro, fun j hj => by rcases Nat.lt_succ_iff_lt_or_eq.1 hj with h | rfl <;> first | exact HS.out _ h | exact HOK⟩, ?_⟩
      simp [intOf]; omega
end Go.Proofs.YtalmgjeiopjhlaaGreatDoor
