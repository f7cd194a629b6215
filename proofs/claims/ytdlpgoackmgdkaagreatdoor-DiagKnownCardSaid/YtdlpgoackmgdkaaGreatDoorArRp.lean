/- The document's Digits, is, number. -/
import Derived.Test.YtdlpgoackmgdkaaGreatDoorArNu
import Derived.Laws.BytesArg
import Derived.Laws.IdiomStrings
namespace Go.Proofs.YtdlpgoackmgdkaaGreatDoor
open Go.RowKit Go.Shelf
set_option linter.unusedVariables false
set_option linter.unusedSimpArgs false
theorem sub_run (s : ByteArray) (i j : Nat) (hi : i ≤ j) (h : j ≤ s.size) (t : TypeId) (ht : Tryz.prog.underlying t = some .string) (w : World) : (Instr.sliceAt t (.string s) (some (.int .i64 (i : Int))) (some (.int .i64 (j : Int))) none).run Tryz.prog w = .ok (.string (s.extract i j)) w := by
  rw [run_sliceAt_string w t _ _ _ _ ht]
  simp [Instr.slice, run_underlying ht, Instr.sliceBounds, run_sliceBound, h, hi]
def dig1 (k : Nat) : ByteArray := ⟨#[UInt8.ofNat (48 + k)]⟩
theorem decS_small {n : Nat} (h : n < 10) : decS n = dig1 (n % 10) := by unfold decS; rw [Lib.decDigits_one h, Nat.mod_eq_of_lt h]; rfl
theorem decS_big {n : Nat} (h : ¬ n < 10) : decS n = decS (n / 10) ++ dig1 (n % 10) := by
  apply ByteArray.ext
  apply Array.toList_inj.1
  unfold decS dig1
  rw [dec_step h]
  simp
theorem conv1 (k : Nat) (w : World) (h : k < 10) : (convert 39 9 (.slice (some ⟨w.heap.size, 0, none⟩) 1 1)).run Tryz.prog (w.alloc (.cells #[.int .u8 (48 + (k : Int))] 5)) = .ok (.string (dig1 k)) (w.alloc (.cells #[.int .u8 (48 + (k : Int))] 5)) := by
  refine run_convert_bytes_back (P := Tryz.prog) _ 39 9 5 ⟨w.heap.size, 0, none⟩ 1 [UInt8.ofNat (48 + k)] Tryz.underlying39 Tryz.underlying5 Tryz.underlying9 (fun j hj => ?_)
  obtain rfl : j = 0 := by simpa using hj
  rw [Lib.add_plain, World.cell?_alloc_new]
  simp [dig_val k h]; omega
set_option maxHeartbeats 1000000 in
set_option maxRecDepth 100000 in
theorem rdig_nat (n : Nat) (hn : n ≤ 9223372036854775807) : ∀ (w : World), Calls Tryz.prog 71 #[.int .i64 (n : Int)] w fun e w' => e = .returned (.string (decS n)) ∧ Below w.heap.size w w' := by
  induction n using Nat.strongRecOn with
  | ind n ih =>
    intro w
    have HIH := Lib.hid ih
    clear ih
    have t0 : decide ((n : Int) < 0) = false := decide_eq_false (by omega)
    have hcv : (convert 39 9 (.slice (some ⟨w.heap.size, 0, none⟩) 1 1)).run Tryz.prog (w.alloc (.cells #[.int .u8 (48 + ((n % 10 : Nat) : Int))] 5)) = .ok (.string (dig1 (n % 10))) (w.alloc (.cells #[.int .u8 (48 + ((n % 10 : Nat) : Int))] 5)) := conv1 (n % 10) w (by omega)
    have hW : Hid (Below w.heap.size w (w.alloc (.cells #[.int .u8 (48 + ((n % 10 : Nat) : Int))] 5))) := alloc_below _ _
    have HM : Hid (n % 10 < 10) := Nat.mod_lt _ (by decide)
    have m1 : (n : Int) % 10 = ((n % 10 : Nat) : Int) := by omega
    by_cases h : n < 10
    · have HD := Lib.hid (decS_small h)
      have hh : decide ((n : Int) < 10) = true := by simp; omega
      clear h HIH
      generalize decS n = R at *
      generalize n % 10 = d at *
      have hd : d < 10 := HM.out
      have m2 : (48 + (d : Int)) % 256 = 48 + (d : Int) := by omega
      go_enter Tryz.func71, Tryz.ntmps71
      go_wp2_with fail
      go_ret
      exact ⟨by rw [HD.out]; rfl, hW.out⟩
    · have HD := Lib.hid (decS_big h)
      have hh : decide ((n : Int) < 10) = false := by simp; omega
      have s1 : (dig1 (n % 10)).size = 1 := rfl
      have s2 : (decS (n / 10)).size ≤ 20 := decS_size (n / 10) (by omega)
      have HC := Lib.hid (HIH.out (n / 10) (by omega) (by omega) (w.alloc (.cells #[.int .u8 (48 + ((n % 10 : Nat) : Int))] 5)))
      have m3 : (n : Int) / 10 = ((n / 10 : Nat) : Int) := by omega
      clear h HIH
      generalize decS n = R at *
      generalize decS (n / 10) = R2 at *
      generalize n % 10 = d at *
      generalize n / 10 = q at *
      generalize dig1 d = D1 at *
      have hd : d < 10 := HM.out
      have m2 : (48 + (d : Int)) % 256 = 48 + (d : Int) := by omega
      have z1 : ¬ 9223372036854775807 < R2.size + D1.size := by omega
      go_enter Tryz.func71, Tryz.ntmps71
      go_wp2_with fail
      refine HC.out.mono ?_
      rintro e w1 ⟨rfl, hb⟩
      have HB : Hid (Below w.heap.size w w1) := hW.out.trans (hb.mono hW.out.size)
      clear hb
      go_wp2_with fail
      go_ret
      exact ⟨by rw [HD.out]; rfl, HB.out⟩
theorem itoaB_nat (n : Nat) : itoaB (n : Int) = decS n := by
  apply ByteArray.ext
  apply Array.toList_inj.1
  show Lib.itoa (n : Int) = Lib.decDigits n
  unfold Lib.itoa; rw [if_neg (by omega)]; simp
theorem itoaB_neg (m : Nat) (h : 0 < m) : itoaB (-(m : Int)) = (⟨#[45]⟩ : ByteArray) ++ decS m := by
  apply ByteArray.ext
  apply Array.toList_inj.1
  rw [data_app]
  show Lib.itoa (-(m : Int)) = [45] ++ Lib.decDigits m
  unfold Lib.itoa; rw [if_pos (by omega)]; simp
theorem itoaB_min : itoaB (-9223372036854775808) = (⟨#[45, 57, 50, 50, 51, 51, 55, 50, 48, 51, 54, 56, 53, 52, 55, 55, 53, 56, 48, 56]⟩ : ByteArray) := by
  apply ByteArray.ext
  apply Array.toList_inj.1
  show Lib.itoa (-9223372036854775808) = _
  simp [Lib.itoa, Lib.decDigits]
set_option maxRecDepth 100000 in
theorem rdig_any (n : Int) (h0 : -9223372036854775808 ≤ n) (h1 : n ≤ 9223372036854775807) (w : World) : Calls Tryz.prog 71 #[.int .i64 n] w fun e w' => e = .returned (.string (itoaB n)) ∧ Below w.heap.size w w' := by
  by_cases hn : 0 ≤ n
  · obtain ⟨m, rfl⟩ := Int.eq_ofNat_of_zero_le hn
    have := rdig_nat m (by omega) w
    rw [← itoaB_nat] at this
    exact this
  obtain ⟨m, rfl⟩ : ∃ m : Nat, n = -(m : Int) := ⟨n.natAbs, by omega⟩
  have t0 : decide (-(m : Int) < 0) = true := decide_eq_true (by omega)
  by_cases hm : m = 9223372036854775808
  · subst hm
    have HR : Hid (itoaB (-((9223372036854775808 : Nat) : Int)) = (⟨#[45, 57, 50, 50, 51, 51, 55, 50, 48, 51, 54, 56, 53, 52, 55, 55, 53, 56, 48, 56]⟩ : ByteArray)) := itoaB_min
    generalize itoaB (-((9223372036854775808 : Nat) : Int)) = R at *
    clear t0 hn h0 h1
    go_enter Tryz.func71, Tryz.ntmps71
    go_wp2_with fail
    go_ret
    exact ⟨by rw [HR.out]; rfl, Below.refl _ _⟩
  have t1 : (-(m : Int) == -9223372036854775808) = false := beq_eq_false_iff_ne.2 (by omega)
  have HR := Lib.hid (itoaB_neg m (by omega))
  have HC := Lib.hid (rdig_nat m (by omega) w)
  have hsz : (decS m).size ≤ 20 := decS_size m (by omega)
  generalize itoaB (-(m : Int)) = R at *
  generalize decS m = D at *
  have z1 : ¬ 9223372036854775807 < 1 + D.size := by omega
  go_enter Tryz.func71, Tryz.ntmps71
  go_wp2_with fail
  refine HC.out.mono ?_
  rintro e w1 ⟨rfl, hb⟩
  have HB := Lib.hid hb
  clear hb HC
  go_wp2_with fail
  go_ret
  exact ⟨by rw [HR.out]; rfl, HB.out⟩
/-! ### is -/
def isW (l w : List UInt8) : Bool := decide (l.take w.length = w)
theorem isW_yes {l w : List UInt8} (h : isW l w = true) : l = w ++ l.drop w.length := by
  unfold isW at h
  have h := of_decide_eq_true h
  conv => lhs; rw [← List.take_append_drop w.length l, h]
theorem isW_no {l w r : List UInt8} (h : isW l w = false) : l ≠ w ++ r := fun e => by
  unfold isW at h
  have h := of_decide_eq_false h
  exact h (by rw [e]; simp)
set_option maxRecDepth 100000 in
theorem ris_any (s word : ByteArray) (p : Nat) (w : World) (hs : s.size ≤ 9223372036854775807) (hp : p ≤ s.size) (hw : word.size ≤ 100) :
    Calls Tryz.prog 72 #[.string s, .int .i64 (p : Int), .string word] w fun e w' => e = .returned (.bool (isW (s.data.toList.drop p) word.data.toList)) ∧ w' = w := by
  have hl : s.data.toList.length = s.size := size_list s
  have hl2 : word.data.toList.length = word.size := size_list word
  by_cases h : p + word.size ≤ s.size
  case neg =>
    have HR : Hid (isW (s.data.toList.drop p) word.data.toList = false) := decide_eq_false (fun e => by
      have := congrArg List.length e
      rw [List.length_take, List.length_drop, hl, hl2] at this; omega)
    generalize isW (s.data.toList.drop p) word.data.toList = R at *
    have t1 : decide ((word.size : Int) ≤ (s.size : Int) - (p : Int)) = false := decide_eq_false (by omega)
    clear hl hl2
    go_enter Tryz.func72, Tryz.ntmps72
    go_wp2_with fail
    go_ret
    exact ⟨by rw [HR.out]; rfl, rfl⟩
  have t1 : decide ((word.size : Int) ≤ (s.size : Int) - (p : Int)) = true := decide_eq_true (by omega)
  have hsl : ∀ W, (Instr.sliceAt 9 (.string s) (some (.int .i64 (p : Int))) (some (.int .i64 ((p : Int) + (word.size : Int)))) none).run Tryz.prog W = .ok (.string (s.extract p (p + word.size))) W := fun W => by
    have := sub_run s p (p + word.size) (by omega) h 9 Tryz.underlying9 W
    rw [Int.natCast_add] at this; exact this
  have HR : Hid (((s.extract p (p + word.size)).toList == word.toList) = isW (s.data.toList.drop p) word.data.toList) := by
    show _ = _
    rw [str_eq, Lib.extract_data, Nat.add_sub_cancel_left]
    unfold isW
    rw [hl2]
  generalize isW (s.data.toList.drop p) word.data.toList = R at *
  generalize s.extract p (p + word.size) = X at *
  cases hR : R
  all_goals
    have t2 := HR.out
    rw [hR] at t2
    clear HR hR hl hl2
    go_enter Tryz.func72, Tryz.ntmps72
    go_wp2_with fail
    go_ret
    exact ⟨rfl, rfl⟩
end Go.Proofs.YtdlpgoackmgdkaaGreatDoor
