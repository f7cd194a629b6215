/- The document's Digits, Takes, Gives; Takes, Gives, Jumps. -/
import Derived.Test.YtalmgjeiopjhlaaGreatDoorIsaTx
import Derived.Test.YtalmgjeiopjhlaaGreatDoorIsaBackA
namespace Go.Proofs.YtalmgjeiopjhlaaGreatDoor
open Go.RowKit
set_option linter.unusedVariables false
set_option linter.unusedSimpArgs false
def dig1 (k : Nat) : ByteArray := ⟨#[UInt8.ofNat (48 + k)]⟩
theorem decS_small {n : Nat} (h : n < 10) : decS n = dig1 (n % 10) := by rw [dec1 n h, Nat.mod_eq_of_lt h]; rfl
theorem decS_big {n : Nat} (h : ¬ n < 10) : decS n = decS (n / 10) ++ dig1 (n % 10) := by
  apply ByteArray.ext
  apply Array.toList_inj.1
  rw [data_app, data_dec, data_dec]
  conv => lhs; rw [Lib.decDigits, dif_neg h]
  rfl
theorem conv1 (k : Nat) (w : World) (h : k < 10) : (convert 42 9 (.slice (some ⟨w.heap.size, 0, none⟩) 1 1)).run Tryz.prog (w.alloc (.cells #[.int .u8 (48 + (k : Int))] 5)) = .ok (.string (dig1 k)) (w.alloc (.cells #[.int .u8 (48 + (k : Int))] 5)) := by
  refine run_convert_bytes_back (P := Tryz.prog) _ 42 9 5 ⟨w.heap.size, 0, none⟩ 1 [UInt8.ofNat (48 + k)] Tryz.underlying42 Tryz.underlying5 Tryz.underlying9 (fun j hj => ?_)
  obtain rfl : j = 0 := by simpa using hj
  rw [Lib.add_plain, World.cell?_alloc_new]
  simp [dig_val k h]; omega
set_option maxHeartbeats 1000000 in
set_option maxRecDepth 100000 in
theorem digits_any (n : Nat) (hn : n < 4294967296) : ∀ (w : World), Calls Tryz.prog 83 #[.int .u32 (n : Int)] w fun e w' => e = .returned (.string (decS n)) ∧ Below w.heap.size w w' := by
  induction n using Nat.strongRecOn with
  | ind n ih =>
    intro w
    have HIH := Lib.hid ih
    clear ih
    by_cases h : n < 10
    · have HD := Lib.hid (decS_small h)
      go_enter Tryz.func83, Tryz.ntmps83
      have hcv : (convert 42 9 (.slice (some ⟨w.heap.size, 0, none⟩) 1 1)).run Tryz.prog (w.alloc (.cells #[.int .u8 (48 + (n : Int) % 10)] 5)) = .ok (.string (dig1 (n % 10))) (w.alloc (.cells #[.int .u8 (48 + (n : Int) % 10)] 5)) := conv1 (n % 10) w (by omega)
      have hW : Hid (Below w.heap.size w (w.alloc (.cells #[.int .u8 (48 + (n : Int) % 10)] 5))) := alloc_below _ _
      have hh : decide ((n : Int) < 10) = true := by simp; omega
      go_wp2_with fail
      go_ret
      exact ⟨by rw [HD.out]; rfl, hW.out⟩
    · have HD := Lib.hid (decS_big h)
      have hcv : (convert 42 9 (.slice (some ⟨w.heap.size, 0, none⟩) 1 1)).run Tryz.prog (w.alloc (.cells #[.int .u8 (48 + (n : Int) % 10)] 5)) = .ok (.string (dig1 (n % 10))) (w.alloc (.cells #[.int .u8 (48 + (n : Int) % 10)] 5)) := conv1 (n % 10) w (by omega)
      have hW : Hid (Below w.heap.size w (w.alloc (.cells #[.int .u8 (48 + (n : Int) % 10)] 5))) := alloc_below _ _
      have hh : ¬ n < 10 := h
      have s1 : (dig1 (n % 10)).size = 1 := rfl
      have s2 := decS_size (n / 10) (by omega)
      have HC : Hid (Calls Tryz.prog 83 #[.int .u32 ((n : Int) / 10)] (w.alloc (.cells #[.int .u8 (48 + (n : Int) % 10)] 5)) fun e w' => e = .returned (.string (decS (n / 10))) ∧ Below (w.alloc (.cells #[.int .u8 (48 + (n : Int) % 10)] 5)).heap.size (w.alloc (.cells #[.int .u8 (48 + (n : Int) % 10)] 5)) w') := HIH.out (n / 10) (by omega) (by omega) _
      clear h
      go_enter Tryz.func83, Tryz.ntmps83
      go_wp2_with fail
      refine HC.out.mono ?_
      rintro e w1 ⟨rfl, hb⟩
      have HB : Hid (Below w.heap.size w w1) := hW.out.trans (hb.mono hW.out.size)
      clear hb
      go_wp2_with fail
      go_ret
      exact ⟨by rw [HD.out]; rfl, HB.out⟩
end Go.Proofs.YtalmgjeiopjhlaaGreatDoor
