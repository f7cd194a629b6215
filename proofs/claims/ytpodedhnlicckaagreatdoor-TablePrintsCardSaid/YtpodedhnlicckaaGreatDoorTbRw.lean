/- The document's Digits and writer. -/
import Derived.Test.YtpodedhnlicckaaGreatDoorTbPt
import Derived.Test.YtpodedhnlicckaaGreatDoorTbPr
import Derived.Test.YtpodedhnlicckaaGreatDoorCls2
import Derived.Laws.BytesArg
namespace Go.Proofs.YtpodedhnlicckaaGreatDoor
open Go.RowKit
set_option linter.unusedVariables false
set_option linter.unusedSimpArgs false
def decB (n : Nat) : ByteArray := ⟨(Lib.decDigits n).toArray⟩
def dig1 (k : Nat) : ByteArray := ⟨#[UInt8.ofNat (48 + k)]⟩
theorem decB_small {n : Nat} (h : n < 10) : decB n = dig1 (n % 10) := by unfold decB; rw [Lib.decDigits_one h, Nat.mod_eq_of_lt h]; rfl
theorem decB_big {n : Nat} (h : ¬ n < 10) : decB n = decB (n / 10) ++ dig1 (n % 10) := by
  apply ByteArray.ext
  apply Array.toList_inj.1
  unfold decB dig1
  rw [dec_step h]
  simp
theorem decB_size {n : Nat} (h : n ≤ 65535) : (decB n).size ≤ 5 := by
  have := (dec_len_five h).2
  show (Lib.decDigits n).toArray.size ≤ 5
  simpa using this
theorem conv1 (k : Nat) (w : World) (h : k < 10) : (convert 67 9 (.slice (some ⟨w.heap.size, 0, none⟩) 1 1)).run Tryz.prog (w.alloc (.cells #[.int .u8 (48 + (k : Int))] 5)) = .ok (.string (dig1 k)) (w.alloc (.cells #[.int .u8 (48 + (k : Int))] 5)) := by
  refine run_convert_bytes_back (P := Tryz.prog) _ 67 9 5 ⟨w.heap.size, 0, none⟩ 1 [UInt8.ofNat (48 + k)] Tryz.underlying67 Tryz.underlying5 Tryz.underlying9 (fun j hj => ?_)
  obtain rfl : j = 0 := by simpa using hj
  rw [Lib.add_plain, World.cell?_alloc_new]
  simp [dig_val k h]; omega
set_option maxHeartbeats 1000000 in
set_option maxRecDepth 100000 in
theorem rdig_any (n : Nat) (hn : n ≤ 65535) : ∀ (w : World), Calls Tryz.prog 87 #[.int .i64 (n : Int)] w fun e w' => e = .returned (.string (decB n)) ∧ Below w.heap.size w w' := by
  induction n using Nat.strongRecOn with
  | ind n ih =>
    intro w
    have HIH := Lib.hid ih
    clear ih
    by_cases h : n < 10
    · have HD := Lib.hid (decB_small h)
      go_enter Tryz.func87, Tryz.ntmps87
      have hcv : (convert 67 9 (.slice (some ⟨w.heap.size, 0, none⟩) 1 1)).run Tryz.prog (w.alloc (.cells #[.int .u8 (48 + (n : Int) % 10)] 5)) = .ok (.string (dig1 (n % 10))) (w.alloc (.cells #[.int .u8 (48 + (n : Int) % 10)] 5)) := conv1 (n % 10) w (by omega)
      have hW : Hid (Below w.heap.size w (w.alloc (.cells #[.int .u8 (48 + (n : Int) % 10)] 5))) := tb_alloc_below _ _
      have hh : decide ((n : Int) < 10) = true := by simp; omega
      go_wp2_with fail
      go_ret
      exact ⟨by rw [HD.out]; rfl, hW.out⟩
    · have HD := Lib.hid (decB_big h)
      have hcv : (convert 67 9 (.slice (some ⟨w.heap.size, 0, none⟩) 1 1)).run Tryz.prog (w.alloc (.cells #[.int .u8 (48 + (n : Int) % 10)] 5)) = .ok (.string (dig1 (n % 10))) (w.alloc (.cells #[.int .u8 (48 + (n : Int) % 10)] 5)) := conv1 (n % 10) w (by omega)
      have hW : Hid (Below w.heap.size w (w.alloc (.cells #[.int .u8 (48 + (n : Int) % 10)] 5))) := tb_alloc_below _ _
      have hh : decide ((n : Int) < 10) = false := by simp; omega
      have s1 : (dig1 (n % 10)).size = 1 := rfl
      have s2 := decB_size (n := n / 10) (by omega)
      have HC : Hid (Calls Tryz.prog 87 #[.int .i64 ((n : Int) / 10)] (w.alloc (.cells #[.int .u8 (48 + (n : Int) % 10)] 5)) fun e w' => e = .returned (.string (decB (n / 10))) ∧ Below (w.alloc (.cells #[.int .u8 (48 + (n : Int) % 10)] 5)).heap.size (w.alloc (.cells #[.int .u8 (48 + (n : Int) % 10)] 5)) w') := HIH.out (n / 10) (by omega) (by omega) _
      clear h
      go_enter Tryz.func87, Tryz.ntmps87
      go_wp2_with fail
      refine HC.out.mono ?_
      rintro e w1 ⟨rfl, hb⟩
      have HB : Hid (Below w.heap.size w w1) := hW.out.trans (hb.mono hW.out.size)
      clear hb
      go_wp2_with fail
      go_ret
      exact ⟨by rw [HD.out]; rfl, HB.out⟩
/-- The document's writer in block g: kept, and whether a number may not be. -/
def RW (g : Nat) (S : List UInt8) (bad : Bool) (w : World) : Prop := w.heap[g]? = some (.cells #[.string ⟨S.toArray⟩, .bool bad] 82 (0, 0))
theorem RW.lt {g : Nat} {S : List UInt8} {bad : Bool} {w : World} (h : RW g S bad w) : g < w.heap.size := heap_lt h
def numS (S : List UInt8) (a : List UInt8) (n : Int) (z : List UInt8) : List UInt8 := if offR n = true then S else capA S (a ++ dI n ++ z)
theorem data3 (S a : ByteArray) (n : Nat) (z : ByteArray) : (S ++ a ++ decB n ++ z).data.toList = S.data.toList ++ (a.data.toList ++ Lib.decDigits n ++ z.data.toList) := by
  unfold decB
  simp
theorem mk_data (s : ByteArray) : (⟨s.data.toList.toArray⟩ : ByteArray) = s := by apply ByteArray.ext; simp
set_option maxHeartbeats 4000000 in
set_option maxRecDepth 100000 in
theorem rnum_any (g : Nat) (S : List UInt8) (bad : Bool) (a z : ByteArray) (n : Int) (w : World) (hw : RW g S bad w) (hS : S.length ≤ 100000) (ha : a.size ≤ 50) (hz : z.size ≤ 50) (h0 : -9223372036854775808 ≤ n) (h1 : n ≤ 9223372036854775807) :
    Calls Tryz.prog 52 #[.pointer (some ⟨g, 0, none⟩), .string a, .int .i64 n, .string z] w fun e w' => e = .returned (.tuple #[]) ∧ RW g (numS S a.data.toList n z.data.toList) (bad || offR n) w' ∧ Only (fun i => i = g) w w' := by
  have HW := Lib.hid hw
  have f1 : w.frozen? ⟨g, 1, none⟩ = false := frozen_of_row _ _ _ _ _ hw
  have c1 : w.cell? ⟨g, 1, none⟩ = some (.bool bad) := cell_row hw rfl
  have hgl := hw.lt
  have HSB : Hid (RW g S true (w.setCell ⟨g, 1, none⟩ (.bool true)) ∧ Only (fun i => i = g) w (w.setCell ⟨g, 1, none⟩ (.bool true))) := ⟨heap_setCell_same _ _ _ _ _ _ hw, (Only.refl _ w).set 1 _ (.inr rfl)⟩
  by_cases n0 : n < 0
  · have t1 : decide (n < 0) = true := decide_eq_true n0
    have HO : Hid (offR n = true) := by show _ = _; unfold offR; rw [t1]; rfl
    have HN : Hid (numS S a.data.toList n z.data.toList = S) := by show _ = _; unfold numS; rw [HO.out, if_pos rfl]
    clear n0 hw
    go_enter Tryz.func52, Tryz.ntmps52
    go_wp2_with fail
    refine bodyPost_ret (results_none rfl _ _ _) rfl ?_
    exact ⟨rfl, by rw [HN.out, HO.out, Bool.or_true]; exact HSB.out.1, HSB.out.2⟩
  have t1 : decide (n < 0) = false := decide_eq_false n0
  by_cases n1 : 65535 < n
  · have t2 : decide (65535 < n) = true := decide_eq_true n1
    have HO : Hid (offR n = true) := by show _ = _; unfold offR; rw [t1, t2]; rfl
    have HN : Hid (numS S a.data.toList n z.data.toList = S) := by show _ = _; unfold numS; rw [HO.out, if_pos rfl]
    clear n0 n1 hw
    go_enter Tryz.func52, Tryz.ntmps52
    go_wp2_with fail
    refine bodyPost_ret (results_none rfl _ _ _) rfl ?_
    exact ⟨rfl, by rw [HN.out, HO.out, Bool.or_true]; exact HSB.out.1, HSB.out.2⟩
  have t2 : decide (65535 < n) = false := decide_eq_false n1
  have HO : Hid (offR n = false) := by show _ = _; unfold offR; rw [t1, t2]; rfl
  have HN : Hid (numS S a.data.toList n z.data.toList = capA S (a.data.toList ++ dI n ++ z.data.toList)) := by show _ = _; unfold numS; rw [HO.out, if_neg (by decide)]
  obtain ⟨m, rfl⟩ := Int.eq_ofNat_of_zero_le (show 0 ≤ n by omega)
  have hm : m ≤ 65535 := by omega
  clear n0 n1 HSB c1 f1
  have c0 : w.cell? ⟨g, 0, none⟩ = some (.string ⟨S.toArray⟩) := cell_row hw rfl
  have hsz : (⟨S.toArray⟩ : ByteArray).size = S.length := by show S.toArray.size = _; simp
  by_cases h8 : S.length ≤ 8000
  · have t3 : decide ((S.length : Int) ≤ 8000) = true := decide_eq_true (by omega)
    have HNN : Hid (numS S a.data.toList (m : Int) z.data.toList = ((⟨S.toArray⟩ : ByteArray) ++ a ++ decB m ++ z).data.toList) := by
      show _ = _
      rw [HN.out, data3]; unfold capA; rw [if_pos h8]; rfl
    have HRD := rdig_any m hm
    have hd5 := decB_size hm
    clear HN hw h8
    obtain ⟨U, fU, hUn, hU1, hU2⟩ := class_of (fun V => Below w.heap.size w V) (W := w.drew) ⟨rfl, rfl, rfl, Nat.le_refl _, fun _ _ => rfl⟩
    have HU1 := Lib.hid hU1; have HU2 := Lib.hid hU2
    clear hU1 hU2
    have hfm : (Tryz.prog).follows .mixedOrders = true := by kernel_rfl
    obtain ⟨q, hd1⟩ : ∃ q : Nat, 1 ≤ q := ⟨1, Nat.le_refl _⟩
    have q0 : ∀ uu, (fU uu).cell? ⟨g, 0, none⟩ = some (.string ⟨S.toArray⟩) := fun uu => (((HU1.out uu).cell (p := ⟨g, 0, none⟩) hgl)).trans c0
    have h0_HR : ∀ uu, Calls Tryz.prog 87 #[.int .i64 (m : Int)] (fU uu) fun e w' => e = .returned (.string (decB m)) ∧ Below (fU uu).heap.size (fU uu) w' := fun uu => HRD (fU uu)
    have HR : Hid (∀ uu, CallsIn Fence.wide (q - 1) Tryz.prog 87 #[.int .i64 (m : Int)] (fU uu) fun e w' => e = .returned (.string (decB m)) ∧ ∃ uu', w' = fU uu') := fun uu => (callsIn_wide.2 (h0_HR uu)).mono (fun e w' ⟨he, hb⟩ => ⟨he, HU2.out _ ((HU1.out uu).trans (hb.mono (HU1.out uu).size))⟩)
    have hf_HR : Fence.wide.fn 87 := trivial
    clear h0_HR
    have HSZ := Lib.hid hsz
    generalize (⟨S.toArray⟩ : ByteArray) = SS at *
    generalize decB m = D at *
    have hs0 : SS.size ≤ 100000 := by omega
    have t3 : decide ((SS.size : Int) ≤ 8000) = true := by rw [HSZ.out]; exact t3
    clear hsz hS
    have hs1 : (SS ++ a).size ≤ 100050 := by rw [ByteArray.size_append]; omega
    have hs2 : (SS ++ a ++ D).size ≤ 100060 := by rw [ByteArray.size_append]; omega
    go_enter Tryz.func52, Tryz.ntmps52
    go_wp2_with fail
    refine (wpIn_wide (n := q)).1 ?_
    refine wpIn_region_tail2_at 14 fU hfm rfl (by kernel_rfl) (HU2.out _ ⟨rfl, rfl, rfl, Nat.le_refl _, fun _ _ => rfl⟩) ?_
    simp only [List.take_succ_cons, List.take_zero, List.getD_cons_succ, List.getD_cons_zero]
    repeat (gi_big_quiet_step ((gi_at_call 87; exact HR.out _)))
    refine wpQuietIn_nil ?_
    intro uu
    have HV := Lib.hid (HU1.out uu)
    clear q0 HR HRD HU1 HU2
    generalize fU uu = V at *
    clear fU hUn
    have hb := (HV.out.block g hgl).trans HW.out
    have d0 : V.cell? ⟨g, 0, none⟩ = some (.string SS) := by rw [HV.out.cell (p := ⟨g, 0, none⟩) hgl]; exact c0
    have f0 : V.frozen? ⟨g, 0, none⟩ = false := frozen_of_row _ _ _ _ _ hb
    have HE : Hid (RW g (SS ++ a ++ D ++ z).data.toList bad (V.setCell ⟨g, 0, none⟩ (.string (SS ++ a ++ D ++ z))) ∧ Only (fun i => i = g) w (V.setCell ⟨g, 0, none⟩ (.string (SS ++ a ++ D ++ z)))) := by
      refine ⟨?_, (Only.of_below _ HV.out).set 0 _ (.inr rfl)⟩
      unfold RW
      rw [mk_data]
      exact heap_setCell_same _ _ _ _ _ _ hb
    clear hb c0
    unfold Oper.wpIn
    go_simp
    clear d0 f0
    go_wp2_with fail
    go_end0
    exact ⟨rfl, by rw [HNN.out, HO.out, Bool.or_false]; exact HE.out.1, HE.out.2⟩
  · have t3 : decide ((S.length : Int) ≤ 8000) = false := decide_eq_false (by omega)
    have HNN : Hid (numS S a.data.toList (m : Int) z.data.toList = S) := by
      show _ = _
      rw [HN.out]; unfold capA; rw [if_neg h8]
    have HSZ := Lib.hid hsz
    clear HN hw h8
    generalize (⟨S.toArray⟩ : ByteArray) = SS at *
    have t3 : decide ((SS.size : Int) ≤ 8000) = false := by rw [HSZ.out]; exact t3
    clear hsz
    go_enter Tryz.func52, Tryz.ntmps52
    go_wp2_with fail
    go_end0
    exact ⟨rfl, by rw [HNN.out, HO.out, Bool.or_false]; exact HW.out, Only.refl _ _⟩
set_option maxHeartbeats 4000000 in
set_option maxRecDepth 100000 in
theorem rput_any (g : Nat) (S : List UInt8) (bad : Bool) (a : ByteArray) (w : World) (hw : RW g S bad w) (hS : S.length ≤ 100000) (ha : a.size ≤ 50) :
    Calls Tryz.prog 53 #[.pointer (some ⟨g, 0, none⟩), .string a] w fun e w' => e = .returned (.tuple #[]) ∧ RW g (capA S a.data.toList) bad w' ∧ Only (fun i => i = g) w w' := by
  have HW := Lib.hid hw
  have f0 : w.frozen? ⟨g, 0, none⟩ = false := frozen_of_row _ _ _ _ _ hw
  have c0 : w.cell? ⟨g, 0, none⟩ = some (.string ⟨S.toArray⟩) := cell_row hw rfl
  have hsz : (⟨S.toArray⟩ : ByteArray).size = S.length := by show S.toArray.size = _; simp
  by_cases h8 : S.length ≤ 8000
  · have HNN : Hid (capA S a.data.toList = ((⟨S.toArray⟩ : ByteArray) ++ a).data.toList) := by
      show _ = _
      unfold capA; rw [if_pos h8]; simp
    have HSZ := Lib.hid hsz
    have t3 : decide ((S.length : Int) ≤ 8000) = true := decide_eq_true (by omega)
    clear h8
    generalize (⟨S.toArray⟩ : ByteArray) = SS at *
    have t3 : decide ((SS.size : Int) ≤ 8000) = true := by rw [HSZ.out]; exact t3
    have hs0 : SS.size ≤ 100000 := by omega
    have HE : Hid (RW g (SS ++ a).data.toList bad (w.setCell ⟨g, 0, none⟩ (.string (SS ++ a))) ∧ Only (fun i => i = g) w (w.setCell ⟨g, 0, none⟩ (.string (SS ++ a)))) := by
      refine ⟨?_, (Only.refl _ w).set 0 _ (.inr rfl)⟩
      unfold RW
      rw [mk_data]
      exact heap_setCell_same _ _ _ _ _ _ hw
    clear hsz hS hw
    go_enter Tryz.func53, Tryz.ntmps53
    go_wp2_with fail
    go_end0
    exact ⟨rfl, by rw [HNN.out]; exact HE.out.1, HE.out.2⟩
  · have t3 : decide ((S.length : Int) ≤ 8000) = false := decide_eq_false (by omega)
    have HNN : Hid (capA S a.data.toList = S) := by
      show _ = _
      unfold capA; rw [if_neg h8]
    have HSZ := Lib.hid hsz
    clear hw h8
    generalize (⟨S.toArray⟩ : ByteArray) = SS at *
    have t3 : decide ((SS.size : Int) ≤ 8000) = false := by rw [HSZ.out]; exact t3
    clear hsz
    go_enter Tryz.func53, Tryz.ntmps53
    go_wp2_with fail
    go_end0
    exact ⟨rfl, by rw [HNN.out]; exact HW.out, Only.refl _ _⟩
end Go.Proofs.YtpodedhnlicckaaGreatDoor
