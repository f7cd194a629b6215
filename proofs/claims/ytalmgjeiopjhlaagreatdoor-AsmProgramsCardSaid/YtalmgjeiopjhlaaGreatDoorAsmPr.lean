/- AsmPrograms. -/
import Derived.Test.YtalmgjeiopjhlaaGreatDoorAsmY
import Derived.Test.YtalmgjeiopjhlaaGreatDoorAsmGr
import Derived.Test.YtalmgjeiopjhlaaGreatDoorCls
namespace Go.Proofs.YtalmgjeiopjhlaaGreatDoor
open Go.Shelf Go.RowKit
set_option linter.unusedVariables false
set_option linter.unusedSimpArgs false
theorem asmS_le (ls : List AL) : (asmS ls).1.length ≤ ls.length := by
  unfold asmS
  split
  · exact Nat.zero_le _
  split
  · exact Nat.zero_le _
  split
  · exact Nat.zero_le _
  · simp
set_option maxHeartbeats 4000000 in
set_option maxRecDepth 100000 in
theorem programs_any (ls : List AL) (a : Option Addr) (c : Nat) (w : World) (hA : AlsAt w a ls) (hok : ∀ i, i < ls.length → (ls.getD i al0).ok) (hm : ls.length ≤ 9223372036854775807) (hL : LibW w) :
    Calls Tryz.prog 3 #[.slice a ls.length c] w fun e w' => e = .returned (.bool true) ∧ Below w.heap.size w w' := by
  have HK := Lib.hid (known_any w hL)
  have HL := Lib.hid hL
  have HA := Lib.hid hA; have HOKS := Lib.hid hok
  have HG := Lib.hid (fun W hW => great_any ls a c W hW hok hm)
  have HS := Lib.hid (fun W hW => asm_any ls a c W hW hok hm)
  have HR := Lib.hid (fun W hW => rasm_any ls a c W hW hok hm)
  have HT := Lib.hid (fun h W hW ht => text_all ls a c W hW hok h ht)
  have HU := Lib.hid (fun h W hW => rtext_all ls a c W hW hok h)
  have HLE := Lib.hid (asmS_le ls)
  clear hL hA hok
  go_enter Tryz.func3, Tryz.ntmps3
  go_wp2_with fail
  refine HK.out.mono ?_
  rintro e w1 ⟨rfl, hb1⟩
  have B1 := Lib.hid hb1
  clear hb1 HK
  generalize hn : ls.length = n at *
  go_wp2_with fail
  refine (HG.out w1 (HA.out.below B1.out)).mono ?_
  rintro e w2 ⟨b, rfl, hb, hb2⟩
  have HB3 := Lib.hid hb
  have B2 : Hid (Below w.heap.size w w2) := B1.out.trans (hb2.mono B1.out.size)
  clear hb hb2 B1 HG
  cases b with
  | true =>
    go_wp2_with fail
    go_ret
    exact ⟨rfl, B2.out⟩
  | false =>
  have hn3 : n ≤ 3000 := HB3.out rfl
  clear HB3
  have HT := Lib.hid (HT.out (by omega))
  have HU := Lib.hid (HU.out (by omega))
  generalize asmS ls = r at *
  obtain ⟨is, rn, rc⟩ := r
  have hisl : is.length ≤ n := HLE.out
  go_wp2_with fail
  refine (HS.out w2 (HA.out.below B2.out)).mono ?_
  rintro e w3 ⟨⟨v, rfl, hv⟩, hb3⟩
  obtain ⟨ia, ic, rfl, _, _, hia⟩ := ins_of_own (ls := is) hv
  have IA := Lib.hid hia
  have B3 : Hid (Below w.heap.size w w3) := B2.out.trans (hb3.mono B2.out.size)
  clear hv hia hb3 B2 HS HLE
  go_wp2_with fail
  refine (HR.out w3 (HA.out.below B3.out)).mono ?_
  rintro e w4 ⟨⟨v, rfl, hv⟩, hb4⟩
  obtain ⟨ja, jc, rfl, _, _, hja⟩ := ins_of_own (ls := is) hv
  have JA := Lib.hid hja
  have IA4 := Lib.hid (IA.out.below hb4)
  have B4 : Hid (Below w.heap.size w w4) := B3.out.trans (hb4.mono B3.out.size)
  clear hv hja hb4 B3 HR IA
  go_wp2_with fail
  go_loopw [29] (fun i wr => ∃ k : Nat, k ≤ n ∧ i = .int .i64 (k : Int) ∧ Hid (Below w4.heap.size w4 wr)) (fun i _ => n - (intOf i).toNat)
  case atStart => exact ⟨0, Nat.zero_le _, rfl, Below.refl _ _⟩
  case round =>
    obtain ⟨k, hk, rfl, HB⟩ := hrel
    have BB : Hid (Below w.heap.size w wr) := B4.out.trans (HB.out.mono B4.out.size)
    rcases Nat.lt_or_ge k n with hk2 | hk2
    case inr =>
      obtain rfl : k = n := by omega
      have t2 : decide ((k : Int) < (k : Int)) = false := by simp
      have IB := Lib.hid (IA4.out.below HB.out)
      have JB := Lib.hid (JA.out.below HB.out)
      clear IA4 JA HB
      go_wp2_with fail
      refine (scode_true is ia ja ic jc wr IB.out JB.out (by omega)).mono ?_
      rintro e w5 ⟨rfl, hb5⟩
      have B5 : Hid (Below w.heap.size w w5) := BB.out.trans (hb5.mono BB.out.size)
      clear hb5 BB IB JB
      go_wp2_with fail
      refine (HT.out w5 (HA.out.below B5.out) (HL.out.below B5.out).tab).mono ?_
      rintro e w6 ⟨rfl, hb6⟩
      have B6 : Hid (Below w.heap.size w w6) := B5.out.trans (hb6.mono B5.out.size)
      clear hb6 B5 HT
      go_wp2_with fail
      refine (HU.out w6 (HA.out.below B6.out)).mono ?_
      rintro e w7 ⟨rfl, hb7⟩
      have B7 : Hid (Below w.heap.size w w7) := B6.out.trans (hb7.mono B6.out.size)
      clear hb7 B6 HU
      go_wp2_with fail
      go_ret
      exact ⟨by first | rfl | simp, B7.out⟩
    have t2 : decide ((k : Int) < (n : Int)) = true := decide_eq_true (by omega)
    obtain ⟨b, off, rfl, hb, hc⟩ := HA.out.at (by omega)
    have a0 : wr.cell? ⟨b, off + k * 6, none⟩ = some (.string (ls.getD k al0).lab) := (BB.out.cell hb).trans (hc k (by omega) 0 (by omega))
    have a1 : wr.cell? ⟨b, off + k * 6 + 1, none⟩ = some (.int .u8 ((ls.getD k al0).i.op : Int)) := (BB.out.cell hb).trans (hc k (by omega) 1 (by omega))
    have a2 : wr.cell? ⟨b, off + k * 6 + 2, none⟩ = some (.int .u8 ((ls.getD k al0).i.a : Int)) := (BB.out.cell hb).trans (hc k (by omega) 2 (by omega))
    have a3 : wr.cell? ⟨b, off + k * 6 + 3, none⟩ = some (.int .u16 ((ls.getD k al0).i.b : Int)) := (BB.out.cell hb).trans (hc k (by omega) 3 (by omega))
    have a4 : wr.cell? ⟨b, off + k * 6 + 4, none⟩ = some (.int .u32 ((ls.getD k al0).i.c : Int)) := (BB.out.cell hb).trans (hc k (by omega) 4 (by omega))
    have a5 : wr.cell? ⟨b, off + k * 6 + 5, none⟩ = some (.string (ls.getD k al0).tgt) := (BB.out.cell hb).trans (hc k (by omega) 5 (by omega))
    have HO := Lib.hid (HOKS.out k (by omega))
    clear hc
    generalize (ls.getD k al0) = x at *
    have HM1 := Lib.hid (fun W => alm_any x W HO.out)
    have HM2 := Lib.hid (fun W => ralm_any x W HO.out)
    unfold AL.val AL.cells at HM1 HM2
    generalize x.may = my at *
    obtain ⟨lab, ⟨op, xa, xb, xc⟩, tgt⟩ := x
    simp only at a0 a1 a2 a3 a4 a5 HM1 HM2
    have GX : Hid ((wr.alloc (.cells #[.string lab, .int .u8 (op : Int), .int .u8 (xa : Int), .int .u16 (xb : Int), .int .u32 (xc : Int), .string tgt] 34)).heap[wr.heap.size]? = some (.cells #[.string lab, .int .u8 (op : Int), .int .u8 (xa : Int), .int .u16 (xb : Int), .int .u32 (xc : Int), .string tgt] 34 (0, 0))) := heap_alloc_new _ _
    have BX : Hid (Below w4.heap.size w4 (wr.alloc (.cells #[.string lab, .int .u8 (op : Int), .int .u8 (xa : Int), .int .u16 (xb : Int), .int .u32 (xc : Int), .string tgt] 34))) := HB.out.alloc HB.out.size _
    go_upto_region 10 with fail
    generalize wr.alloc (.cells #[.string lab, .int .u8 (op : Int), .int .u8 (xa : Int), .int .u16 (xb : Int), .int .u32 (xc : Int), .string tgt] 34) = w5 at *
    generalize wr.heap.size = g at *
    clear a0 a1 a2 a3 a4 a5 HB BB
    obtain ⟨U, f, hUn, hU1, hU2⟩ := class_of (fun V => Below w5.heap.size w5 V) (W := w5.drew) ⟨rfl, rfl, rfl, Nat.le_refl _, fun _ _ => rfl⟩
    have y0 : ∀ u, (f u).cell? ⟨g, 0, none⟩ = some (.string lab) := fun u => cell_row (j := 0) (kept GX.out (hU1 u)) rfl
    have y1 : ∀ u, (f u).cell? ⟨g, 1, none⟩ = some (.int .u8 (op : Int)) := fun u => cell_row (j := 1) (kept GX.out (hU1 u)) rfl
    have y2 : ∀ u, (f u).cell? ⟨g, 2, none⟩ = some (.int .u8 (xa : Int)) := fun u => cell_row (j := 2) (kept GX.out (hU1 u)) rfl
    have y3 : ∀ u, (f u).cell? ⟨g, 3, none⟩ = some (.int .u16 (xb : Int)) := fun u => cell_row (j := 3) (kept GX.out (hU1 u)) rfl
    have y4 : ∀ u, (f u).cell? ⟨g, 4, none⟩ = some (.int .u32 (xc : Int)) := fun u => cell_row (j := 4) (kept GX.out (hU1 u)) rfl
    have y5 : ∀ u, (f u).cell? ⟨g, 5, none⟩ = some (.string tgt) := fun u => cell_row (j := 5) (kept GX.out (hU1 u)) rfl
    have HU1 := Lib.hid hU1; have HU2 := Lib.hid hU2
    clear hU1 hU2
    have hfm : (Tryz.prog).follows .mixedOrders = true := by kernel_rfl
    obtain ⟨m, hd1⟩ : ∃ m : Nat, 1 ≤ m := ⟨1, Nat.le_refl _⟩
    have HR0 : Hid (∀ u, CallsIn Fence.wide (m - 1) Tryz.prog 12 #[.agg #[.string lab, .int .u8 (op : Int), .int .u8 (xa : Int), .int .u16 (xb : Int), .int .u32 (xc : Int), .string tgt]] (f u) fun e w' => e = .returned (.bool my) ∧ ∃ u', w' = f u') := fun u =>
      (callsIn_wide.2 (HM1.out (f u))).mono (fun e w' ⟨he, hb⟩ => ⟨he, HU2.out w' ((HU1.out u).trans (hb.mono (HU1.out u).size))⟩)
    have hf0 : Fence.wide.fn 12 := trivial
    have HR1 : Hid (∀ u, CallsIn Fence.wide (m - 1) Tryz.prog 13 #[.agg #[.string lab, .int .u8 (op : Int), .int .u8 (xa : Int), .int .u16 (xb : Int), .int .u32 (xc : Int), .string tgt]] (f u) fun e w' => e = .returned (.bool my) ∧ ∃ u', w' = f u') := fun u =>
      (callsIn_wide.2 (HM2.out (f u))).mono (fun e w' ⟨he, hb⟩ => ⟨he, HU2.out w' ((HU1.out u).trans (hb.mono (HU1.out u).size))⟩)
    have hf1 : Fence.wide.fn 13 := trivial
    clear HM1 HM2
    refine (wpIn_wide (n := m)).1 ?_
    refine wpIn_region_cls f (by kernel_rfl) hfm (by kernel_rfl) (HU2.out _ ⟨rfl, rfl, rfl, Nat.le_refl _, fun _ _ => rfl⟩) ?_
    repeat (gi_big_quiet_step (first | (gi_at_call 12; exact HR0.out _) | (gi_at_call 13; exact HR1.out _)))
    refine wpQuietIn_nil ?_
    rintro w6 ⟨u, rfl⟩
    have B6 : Hid (Below w4.heap.size w4 (f u)) := BX.out.trans ((HU1.out u).mono BX.out.size)
    generalize f u = w6 at *
    clear HR0 hf0 HR1 hf1 HU1 HU2 y0 y1 y2 y3 y4 y5
    have tmm : (my != my) = false := by cases my <;> rfl
    go_wp2_with fail
    refine ⟨⟨k + 1, by omega, by go_num, B6⟩, ?_⟩
    simp [intOf]; omega
theorem programs_walk (a : Option Addr) (len cap : Nat) (w : World) (w0 : ReadsC w 22 [.slice a len cap]) (hL : LibW w) :
    Calls Tryz.prog 3 #[.slice a len cap] w fun e w' => e = .returned (.bool true) ∧ Below w.heap.size w w' := by
  obtain ⟨h1, h2, ls, rfl, hA, hok⟩ := reads_als w0
  exact programs_any ls a cap w hA hok (by unfold maxLen at h2; omega) hL
end Go.Proofs.YtalmgjeiopjhlaaGreatDoor
