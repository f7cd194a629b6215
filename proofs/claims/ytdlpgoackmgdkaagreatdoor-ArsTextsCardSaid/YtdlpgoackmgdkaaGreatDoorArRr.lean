/- The document's Print. -/
import Derived.Test.YtdlpgoackmgdkaaGreatDoorArRq
import Derived.Test.YtdlpgoackmgdkaaGreatDoorCls
namespace Go.Proofs.YtdlpgoackmgdkaaGreatDoor
open Go.RowKit Go.Shelf
set_option linter.unusedVariables false
set_option linter.unusedSimpArgs false
def atC : ByteArray := ⟨#[97, 116, 32]⟩
def roC : ByteArray := ⟨#[32, 114, 111, 117, 116, 101, 32]⟩
def nlC : ByteArray := ⟨#[10]⟩
theorem lineC (S : ByteArray) (x : PL) : bytesOf (S.data.toList ++ lineT x) = S ++ atC ++ itoaB (x.fr : Int) ++ roC ++ itoaB x.rt ++ nlC := by
  apply ByteArray.ext
  apply Array.toList_inj.1
  rw [bytesOf_data]
  simp only [data_app]
  rw [itoaB_nat]
  show _ = S.data.toList ++ [97, 116, 32] ++ Lib.decDigits x.fr ++ [32, 114, 111, 117, 116, 101, 32] ++ Lib.itoa x.rt ++ [10]
  unfold lineT
  simp
theorem printT_step (ls : List PL) {k : Nat} (h : k < ls.length) : printT (ls.take (k + 1)) = printT (ls.take k) ++ lineT (ls.getD k pl0) := by
  rw [List.take_succ_eq_append_getElem h, printT_snoc, List.getD_eq_getElem?_getD, List.getElem?_eq_getElem h]; rfl
set_option maxHeartbeats 4000000 in
set_option maxRecDepth 100000 in
theorem rprint_any (ls : List PL) (a : Option Addr) (c : Nat) (w : World) (hA : PlsAt w a ls) (hok : ∀ i, i < ls.length → (ls.getD i pl0).ok) (hm : ls.length ≤ 1000000) :
    Calls Tryz.prog 36 #[.slice a ls.length c] w fun e w' => e = .returned (.string (bytesOf (printT ls))) ∧ Below w.heap.size w w' := by
  have HA := Lib.hid hA; have HOK := Lib.hid hok
  obtain ⟨n, hn⟩ : ∃ n, n = ls.length := ⟨_, rfl⟩
  rw [← hn] at hm ⊢
  have HN := Lib.hid hn
  have HF : Hid (printT ls = printT (ls.take n)) := by show _ = _; rw [hn, List.take_length]
  generalize printT ls = R at *
  clear hA hok hn
  go_enter Tryz.func36, Tryz.ntmps36
  go_wp2_with fail
  go_loopw [3, 4] (fun sv i wr => ∃ (k : Nat) (S : ByteArray), k ≤ n ∧ i = .int .i64 (k : Int) ∧ sv = .string S ∧ S.size ≤ 60 * k ∧ Hid (S.data.toList = printT (ls.take k)) ∧ Hid (Below w.heap.size w wr)) (fun _ i _ => n - (intOf i).toNat)
  case atStart => exact ⟨0, ⟨#[]⟩, Nat.zero_le _, rfl, rfl, Nat.zero_le _, (by show _ = _; rfl), Below.refl _ _⟩
  case round =>
    obtain ⟨k, S, hk, rfl, rfl, hS, HS, BB⟩ := hrel
    rcases Nat.lt_or_ge k n with hk2 | hk2
    case inr =>
      obtain rfl : k = n := by omega
      have t2 : decide ((k : Int) < (k : Int)) = false := by simp
      have HR : Hid (bytesOf R = S) := by show _ = _; rw [HF.out, ← HS.out, bytesOf_of]
      go_wp2_with fail
      go_ret
      exact ⟨by rw [HR.out]; rfl, BB.out⟩
    have t2 : decide ((k : Int) < (n : Int)) = true := decide_eq_true (by omega)
    have i1 : (k : Int) < (n : Int) := by omega
    obtain ⟨b, off, rfl, hb, hc⟩ := HA.out.at (by rw [← HN.out]; omega)
    have x0 : wr.cell? ⟨b, off + k * 2, none⟩ = some (.int .u32 ((ls.getD k pl0).fr : Int)) := (BB.out.cell hb).trans (hc k (by rw [← HN.out]; omega) 0 (by omega))
    have x1 : wr.cell? ⟨b, off + k * 2 + 1, none⟩ = some (.int .i64 (ls.getD k pl0).rt) := (BB.out.cell hb).trans (hc k (by rw [← HN.out]; omega) 1 (by omega))
    have hbr : b < wr.heap.size := Nat.lt_of_lt_of_le hb BB.out.size
    have hxo := HOK.out k (by rw [← HN.out]; exact hk2)
    have HST := Lib.hid (printT_step ls (k := k) (by rw [← HN.out]; exact hk2))
    generalize ls.getD k pl0 = x at *
    have h1 := hxo.fr; have h2 := hxo.lo; have h3 := hxo.hi
    have HL := Lib.hid (lineC S x)
    have HLT := Lib.hid (lineT_len hxo)
    have zs1 : (itoaB (x.fr : Int)).size ≤ 20 := by rw [itoaB_nat]; exact decS_size x.fr (by omega)
    have zs2 : (itoaB x.rt).size ≤ 21 := by
      have := itoa_len x.rt h2 h3
      show (Lib.itoa x.rt).toArray.size ≤ 21
      rw [List.size_toArray]; exact this
    have HD1 := Lib.hid (fun V => rdig_any (x.fr : Int) (by omega) (by omega) V)
    have HD2 := Lib.hid (fun V => rdig_any x.rt h2 h3 V)
    obtain ⟨fr, rt⟩ := x
    simp only at x0 x1 h1 h2 h3 HL zs1 zs2 HD1 HD2
    generalize itoaB (fr : Int) = D1 at *
    generalize itoaB rt = D2 at *
    have z0 : ¬ 9223372036854775807 < S.size + 3 := by omega
    clear hc hxo
    go_upto_region 5 with fail
    obtain ⟨U, f, hUn, hU1, hU2⟩ := class_of (fun V => Below wr.heap.size wr V) (W := wr.drew) ⟨rfl, rfl, rfl, Nat.le_refl _, fun _ _ => rfl⟩
    have y0 : ∀ u, (f u).cell? ⟨b, off + k * 2, none⟩ = some (.int .u32 (fr : Int)) := fun u => ((hU1 u).cell hbr).trans x0
    have y1 : ∀ u, (f u).cell? ⟨b, off + k * 2 + 1, none⟩ = some (.int .i64 rt) := fun u => ((hU1 u).cell hbr).trans x1
    have y2 : ∀ u, b < (f u).heap.size := fun u => Nat.lt_of_lt_of_le hbr (hU1 u).size
    have HU1 := Lib.hid hU1; have HU2 := Lib.hid hU2
    clear hU1 hU2 x0 x1
    have hfm : (Tryz.prog).follows .mixedOrders = true := by kernel_rfl
    obtain ⟨q, hd1⟩ : ∃ q : Nat, 1 ≤ q := ⟨1, Nat.le_refl _⟩
    have HR1 : Hid (∀ u, CallsIn Fence.wide (q - 1) Tryz.prog 71 #[.int .i64 (fr : Int)] (f u) fun e w' => e = .returned (.string D1) ∧ ∃ u', w' = f u') := fun u => (callsIn_wide.2 (HD1.out (f u))).mono (fun e w' ⟨he, hb⟩ => ⟨he, HU2.out w' ((HU1.out u).trans (hb.mono (HU1.out u).size))⟩)
    have HR2 : Hid (∀ u, CallsIn Fence.wide (q - 1) Tryz.prog 71 #[.int .i64 rt] (f u) fun e w' => e = .returned (.string D2) ∧ ∃ u', w' = f u') := fun u => (callsIn_wide.2 (HD2.out (f u))).mono (fun e w' ⟨he, hb⟩ => ⟨he, HU2.out w' ((HU1.out u).trans (hb.mono (HU1.out u).size))⟩)
    have hf0 : Fence.wide.fn 71 := trivial
    refine (wpIn_wide (n := q)).1 ?_
    refine wpIn_region_cls f (by kernel_rfl) hfm (by kernel_rfl) (HU2.out _ ⟨rfl, rfl, rfl, Nat.le_refl _, fun _ _ => rfl⟩) ?_
    repeat (gi_big_quiet_step (first | (gi_at_call 71; (with_reducible exact HR1.out _)) | (gi_at_call 71; (with_reducible exact HR2.out _))))
    refine wpQuietIn_nil ?_
    rintro w5 ⟨u, rfl⟩
    have B5 : Hid (Below w.heap.size w (f u)) := BB.out.trans ((HU1.out u).mono BB.out.size)
    generalize f u = w5 at *
    clear HR1 HR2 hf0 HU1 HU2 y0 y1 y2 HD1 HD2
    go_wp2_with fail
    refine ⟨⟨k + 1, _, by omega, by go_num, rfl, ?_, ?_, B5⟩, ?_⟩
    · have e := congrArg ByteArray.size HL.out
      have e2 := HLT.out
      rw [bytes_size, List.length_append, size_list] at e
      show (S ++ atC ++ D1 ++ roC ++ D2 ++ nlC).size ≤ _
      omega
    · show _ = _
      rw [HST.out, ← HS.out]
      show (S ++ atC ++ D1 ++ roC ++ D2 ++ nlC).data.toList = _
      rw [← HL.out, bytesOf_data]
    · simp [intOf]; omega
end Go.Proofs.YtdlpgoackmgdkaaGreatDoor
