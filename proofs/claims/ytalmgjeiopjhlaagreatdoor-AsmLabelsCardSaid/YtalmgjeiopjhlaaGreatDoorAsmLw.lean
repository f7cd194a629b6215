/- AsmLabels. -/
import Derived.Test.YtalmgjeiopjhlaaGreatDoorAsmLb
import Derived.Test.YtalmgjeiopjhlaaGreatDoorAsmLr
import Derived.Test.YtalmgjeiopjhlaaGreatDoorAsmY
import Derived.Test.YtalmgjeiopjhlaaGreatDoorAsmGr
import Derived.Test.YtalmgjeiopjhlaaGreatDoorCls
namespace Go.Proofs.YtalmgjeiopjhlaaGreatDoor
open Go.Shelf Go.RowKit Go.WideMaps Go.Maps
set_option linter.unusedVariables false
set_option linter.unusedSimpArgs false
theorem repL_len (c : UInt8) (new : List UInt8) : ∀ (l : List UInt8), (repL c new l).length ≤ (new.length + 1) * l.length
  | [] => Nat.zero_le _
  | b :: r => by
    have ih := repL_len c new r
    have e : repL c new (b :: r) = (if b = c then new else [b]) ++ repL c new r := by unfold repL; rw [List.flatMap_cons]
    rw [e, List.length_append, List.length_cons, Nat.mul_succ]
    have : (if b = c then new else [b]).length ≤ new.length + 1 := by split <;> simp
    omega
def dblB (s : ByteArray) : ByteArray := ⟨(repL 32 [32, 32] s.data.toList).toArray⟩
def remB (s : ByteArray) : ByteArray := ⟨(repL 10 remR s.data.toList).toArray⟩
theorem dblB_size (s : ByteArray) : (dblB s).size ≤ 3 * s.size := by
  have := repL_len 32 [32, 32] s.data.toList
  rw [size_list] at this
  rw [← size_list]; unfold dblB; simpa using this
theorem remB_size (s : ByteArray) : (remB s).size ≤ 18 * s.size := by
  have := repL_len 10 remR s.data.toList
  rw [size_list] at this
  rw [← size_list]; unfold remB
  rw [show (ByteArray.mk (repL 10 remR s.data.toList).toArray).data.toList = repL 10 remR s.data.toList by simp]
  have e : remR.length = 17 := by decide
  rw [e] at this; exact this
theorem textS_len {ls : List AL} (hok : ∀ i, i < ls.length → (ls.getD i al0).ok) : (textS ls).size ≤ 99 * ls.length := by
  rw [← size_list]
  unfold textS
  cases h : first (mayL ls) ls.length with
  | some i => show ([] : List UInt8).length ≤ _; simp
  | none =>
    show (ByteArray.mk (textK ls ls.length).toArray).data.toList.length ≤ _
    rw [show (ByteArray.mk (textK ls ls.length).toArray).data.toList = textK ls ls.length by simp]
    exact textK_len hok _ (Nat.le_refl _) (fun j hj => by
      unfold first at h
      have := List.find?_eq_none.1 h j (List.mem_range.2 hj)
      simpa using this)
theorem asmS_len (ls : List AL) : (asmS ls).1.length ≤ ls.length := by
  unfold asmS
  split
  · exact Nat.zero_le _
  split
  · exact Nat.zero_le _
  split
  · exact Nat.zero_le _
  · simp
theorem ra_any (s : ByteArray) (c : UInt8) (new : ByteArray) (w : World) (hs : s.size ≤ 1000000) (hn : new.size ≤ 100) (hne : [c] ≠ new.data.toList) (hM : MaxW w) :
    Calls Tryz.prog 24 #[.string s, .string ⟨#[c]⟩, .string new] w fun e w' => e = .returned (.string ⟨(repL c new.data.toList s.data.toList).toArray⟩) ∧ Below w.heap.size w w' := by
  obtain ⟨m, hm⟩ := hM
  have hc : Lib.countB s ⟨#[c]⟩ ≤ 1000001 := by
    have := Lib.count_le s.data.toList [c]
    rw [size_list] at this
    show Lib.count s.data.toList [c] ≤ _
    omega
  have hl : s.size + Lib.countB s ⟨#[c]⟩ * new.size ≤ 140737488355328 := by
    have := Nat.mul_le_mul hc hn
    omega
  refine (Any.strings_ReplaceAll Tryz.laysRA Tryz.extraRA s ⟨#[c]⟩ new m w (by omega) hm (Nat.le_refl 1) hl).mono ?_
  rintro e w' ⟨h1, h2⟩
  refine ⟨?_, h2⟩
  rw [h1]
  show Ending.returned (.string ⟨(Lib.replaceAll s.data.toList [c] new.data.toList).toArray⟩) = _
  rw [replaceAll_rep c _ _ hne]
set_option maxHeartbeats 8000000 in
set_option maxRecDepth 100000 in
theorem labels_any (ls : List AL) (a : Option Addr) (c : Nat) (w : World) (hA : AlsAt w a ls) (hok : ∀ i, i < ls.length → (ls.getD i al0).ok) (hm : ls.length ≤ 9223372036854775807) (hL : LibW w) :
    Calls Tryz.prog 7 #[.slice a ls.length c] w fun e w' => e = .returned (.bool true) ∧ Below w.heap.size w w' := by
  have HK := Lib.hid (known_any w hL)
  have HL := Lib.hid hL
  have HA := Lib.hid hA; have HOKS := Lib.hid hok
  have HG := Lib.hid (fun W hW => great_any ls a c W hW hok hm)
  clear hL hA hok
  obtain ⟨i0, hi, hz0, hz1, hz2⟩ := info_parts (show (Tryz.prog.info? 34).map (fun i => (i.zero, i.size, i.bytes)) = some (some (.agg #[.string ⟨#[]⟩, .int .u8 0, .int .u8 0, .int .u16 0, .int .u32 0, .string ⟨#[]⟩]), 6, 40) by kernel_rfl)
  have HIn := Lib.hid hi; have HZ0 := Lib.hid hz0; have HZ1 := Lib.hid hz1; have HZ2 := Lib.hid hz2
  clear hi hz0 hz1 hz2
  go_enter Tryz.func7, Tryz.ntmps7
  go_wp2_with fail
  refine HK.out.mono ?_
  rintro e w1 ⟨rfl, hb1⟩
  have B1 := Lib.hid hb1
  clear hb1 HK
  go_wp2_with fail
  refine (HG.out w1 (HA.out.below B1.out)).mono ?_
  rintro e w2 ⟨b, rfl, hb, hb2⟩
  have HB3 := Lib.hid hb
  have B2 : Hid (Below w.heap.size w w2) := B1.out.trans (hb2.mono B1.out.size)
  clear hb hb2 B1 HG
  cases b with
  | true =>
    go_wp2_with fail
    go_ret
    exact ⟨rfl, B2.out⟩
  | false =>
  have hn3 : ls.length ≤ 3000 := HB3.out rfl
  clear HB3
  go_wp2_with fail
  go_loopw [3, 21] (fun v i wr => ∃ (k : Nat) (acc : List AL) (oa : Option Addr) (oc : Nat), v = .slice oa acc.length oc ∧ k ≤ ls.length ∧ acc.length ≤ k ∧ i = .int .i64 (k : Int) ∧ Hid (acc = (ls.take k).map ren) ∧ Hid (∀ j, j < k → (ls.getD j al0).may = true ∧ (ls.getD j al0).lab.size ≤ 15 ∧ (ls.getD j al0).tgt.size ≤ 15) ∧ Hid (wr.ownsRow w2.heap.size 34 6 (.slice oa acc.length oc) acc.length (alVs acc)) ∧ Hid (Below w2.heap.size w2 wr)) (fun _ i _ => ls.length - (intOf i).toNat)
  case atStart => exact ⟨0, [], none, 0, rfl, Nat.zero_le _, Nat.zero_le _, rfl, rfl, (fun j hj => absurd hj (Nat.not_lt_zero _)), World.ownsRow_nil _ _ _ _, Below.refl _ _⟩
  case round =>
    obtain ⟨k, acc, oa, oc, rfl, hk, hacc, rfl, HAC, HAL, HO, HB⟩ := hrel
    have BB : Hid (Below w.heap.size w wr) := B2.out.trans (HB.out.mono B2.out.size)
    rcases Nat.lt_or_ge k ls.length with hk2 | hk2
    case inr =>
      obtain rfl : k = ls.length := by omega
      have t2 : decide ((ls.length : Int) < (ls.length : Int)) = false := by simp
      clear HIn HZ0 HZ1 HZ2
      have HACF : acc = ls.map ren := by have := HAC.out; rw [List.take_length] at this; exact this
      have HM1 := Lib.hid (fun i hi => (HAL.out i hi).1)
      have HOA : Hid (∀ i, i < acc.length → (acc.getD i al0).ok) := fun i hi => by
        rw [HACF, List.length_map] at hi
        rw [HACF, ren_get]; exact ren_ok (HOKS.out i hi) (HAL.out i hi).2.1 (HAL.out i hi).2.2
      have HAE : Hid (asmS acc = asmS ls) := by show _ = _; rw [HACF]; exact ren_asm HM1.out (fun i hi => (HAL.out i hi).2.1) (fun i hi => (HAL.out i hi).2.2)
      have HACL : acc.length ≤ 3000 := by omega
      obtain ⟨oa', oc', he, _, _, hoa⟩ := als_of_own (ls := acc) HO.out
      obtain ⟨rfl, rfl⟩ : oa = oa' ∧ oc = oc' := by injection he with h1 h2 h3; exact ⟨h1, h3⟩
      have OA := Lib.hid hoa
      clear he hoa HO HAC HAL HACF
      have HS := Lib.hid (fun W hW => asm_any ls a c W hW HOKS.out hm)
      have HS2 := Lib.hid (fun W hW => asm_any acc oa oc W hW HOA.out (by omega))
      rw [HAE.out] at HS2
      have HLE := Lib.hid (asmS_len ls)
      have HT := Lib.hid (fun W hW ht => text_all ls a c W hW HOKS.out (by omega) ht)
      have hts : (textS ls).size ≤ 297000 := by have := textS_len HOKS.out; omega
      have HPE : Hid (parseS (remB (dblB (textS ls))).data.toList = (ls, 0, 0)) := by
        have := rem_parse HM1.out HOKS.out hn3
        show _ = _
        unfold remB dblB
        rw [show (ByteArray.mk (repL 32 [32, 32] (textS ls).data.toList).toArray).data.toList = repL 32 [32, 32] (textS ls).data.toList by simp, show ∀ l : List UInt8, (ByteArray.mk (repL 10 remR l).toArray).data.toList = repL 10 remR l by intro l; simp]
        exact this
      have hd1 := dblB_size (textS ls)
      have hd2 := remB_size (dblB (textS ls))
      have HR1 := Lib.hid (fun W hM => ra_any (textS ls) 32 ⟨#[32, 32]⟩ W (by omega) (by decide) (by decide) hM)
      have HR2 := Lib.hid (fun W hM => ra_any (dblB (textS ls)) 10 ⟨#[32, 59, 32, 97, 58, 32, 114, 101, 109, 97, 114, 107, 10, 59, 10, 32, 10]⟩ W (by omega) (by decide) (by decide) hM)
      have HP := Lib.hid (fun W hW => parse_any (remB (dblB (textS ls))) W (by omega) hW)
      rw [HPE.out] at HP
      clear hts hd1 hd2 HPE HAE HM1 HOA HOKS
      change Hid (∀ W, MaxW W → Calls Tryz.prog 24 #[.string (textS ls), .string ⟨#[32]⟩, .string ⟨#[32, 32]⟩] W fun e w' => e = .returned (.string (dblB (textS ls))) ∧ Below W.heap.size W w') at HR1
      change Hid (∀ W, MaxW W → Calls Tryz.prog 24 #[.string (dblB (textS ls)), .string ⟨#[10]⟩, .string ⟨#[32, 59, 32, 97, 58, 32, 114, 101, 109, 97, 114, 107, 10, 59, 10, 32, 10]⟩] W fun e w' => e = .returned (.string (remB (dblB (textS ls)))) ∧ Below W.heap.size W w') at HR2
      generalize remB (dblB (textS ls)) = x2 at *
      generalize dblB (textS ls) = x1 at *
      generalize textS ls = x0 at *
      generalize asmS ls = r at *
      obtain ⟨is, rn, rc⟩ := r
      have hisl : is.length ≤ ls.length := HLE.out
      go_wp2_with fail
      refine (HS.out wr (HA.out.below BB.out)).mono ?_
      rintro e w3 ⟨⟨v, rfl, hv⟩, hb3⟩
      obtain ⟨ia, ic, rfl, _, _, hia⟩ := ins_of_own (ls := is) hv
      have IA := Lib.hid hia
      have OA3 := Lib.hid (OA.out.below hb3)
      have B3 : Hid (Below w.heap.size w w3) := BB.out.trans (hb3.mono BB.out.size)
      clear hv hia hb3 BB HS HLE OA HB
      go_wp2_with fail
      refine (HS2.out w3 OA3.out).mono ?_
      rintro e w4 ⟨⟨v, rfl, hv⟩, hb4⟩
      obtain ⟨ja, jc, rfl, _, _, hja⟩ := ins_of_own (ls := is) hv
      have JA := Lib.hid hja
      have IA4 := Lib.hid (IA.out.below hb4)
      have B4 : Hid (Below w.heap.size w w4) := B3.out.trans (hb4.mono B3.out.size)
      clear hv hja hb4 B3 HS2 IA OA3
      have HSC := Lib.hid (scode_true is ia ja ic jc w4 IA4.out JA.out (by omega))
      clear IA4 JA
      go_wp2_with fail
      refine HSC.out.mono ?_
      rintro e w5 ⟨rfl, hb5⟩
      have B5 : Hid (Below w.heap.size w w5) := B4.out.trans (hb5.mono B4.out.size)
      clear hb5 B4 HSC
      go_wp2_with fail
      refine (HT.out w5 (HA.out.below B5.out) (HL.out.below B5.out).tab).mono ?_
      rintro e w6 ⟨rfl, hb6⟩
      have B6 : Hid (Below w.heap.size w w6) := B5.out.trans (hb6.mono B5.out.size)
      clear hb6 B5 HT
      go_wp2_with fail
      refine (HR1.out w6 (HL.out.below B6.out).max).mono ?_
      rintro e w7 ⟨rfl, hb7⟩
      have B7 : Hid (Below w.heap.size w w7) := B6.out.trans (hb7.mono B6.out.size)
      clear hb7 B6 HR1
      go_wp2_with fail
      refine (HR2.out w7 (HL.out.below B7.out).max).mono ?_
      rintro e w8 ⟨rfl, hb8⟩
      have B8 : Hid (Below w.heap.size w w8) := B7.out.trans (hb8.mono B7.out.size)
      clear hb8 B7 HR2
      go_wp2_with fail
      refine (HP.out w8 (HL.out.below B8.out)).mono ?_
      rintro e w9 ⟨⟨v, rfl, hv⟩, hb9⟩
      obtain ⟨ma, mc, rfl, _, _, hma⟩ := als_of_own (ls := ls) hv
      have MA := Lib.hid hma
      have B9 : Hid (Below w.heap.size w w9) := B8.out.trans (hb9.mono B8.out.size)
      clear hv hma hb9 B8 HP
      have HSM := Lib.hid (same_true ls ma a mc c w9 MA.out (HA.out.below B9.out) (by omega))
      clear MA
      go_wp2_with fail
      refine HSM.out.mono ?_
      rintro e w10 ⟨rfl, hb10⟩
      have B10 : Hid (Below w.heap.size w w10) := B9.out.trans (hb10.mono B9.out.size)
      clear hb10 B9 HSM
      go_wp2_with fail
      go_ret
      exact ⟨by first | rfl | simp, B10.out⟩
    have t2 : decide ((k : Int) < (ls.length : Int)) = true := decide_eq_true (by omega)
    obtain ⟨b, off, rfl, hb, hc⟩ := HA.out.at (by omega)
    have a0 : wr.cell? ⟨b, off + k * 6, none⟩ = some (.string (ls.getD k al0).lab) := (BB.out.cell hb).trans (hc k (by omega) 0 (by omega))
    have a1 : wr.cell? ⟨b, off + k * 6 + 1, none⟩ = some (.int .u8 ((ls.getD k al0).i.op : Int)) := (BB.out.cell hb).trans (hc k (by omega) 1 (by omega))
    have a2 : wr.cell? ⟨b, off + k * 6 + 2, none⟩ = some (.int .u8 ((ls.getD k al0).i.a : Int)) := (BB.out.cell hb).trans (hc k (by omega) 2 (by omega))
    have a3 : wr.cell? ⟨b, off + k * 6 + 3, none⟩ = some (.int .u16 ((ls.getD k al0).i.b : Int)) := (BB.out.cell hb).trans (hc k (by omega) 3 (by omega))
    have a4 : wr.cell? ⟨b, off + k * 6 + 4, none⟩ = some (.int .u32 ((ls.getD k al0).i.c : Int)) := (BB.out.cell hb).trans (hc k (by omega) 4 (by omega))
    have a5 : wr.cell? ⟨b, off + k * 6 + 5, none⟩ = some (.string (ls.getD k al0).tgt) := (BB.out.cell hb).trans (hc k (by omega) 5 (by omega))
    have HX := Lib.hid (HOKS.out k (by omega))
    have HAC2 : Hid (acc ++ [ren (ls.getD k al0)] = (ls.take (k + 1)).map ren) := by
      show _ = _
      rw [HAC.out, List.take_add_one, List.map_append, List.getElem?_eq_getElem hk2, List.getD_eq_getElem?_getD, List.getElem?_eq_getElem hk2]; rfl
    have HAL1 : Hid ((ls.getD k al0).may = true → (ls.getD k al0).lab.size ≤ 15 → (ls.getD k al0).tgt.size ≤ 15 → ∀ j, j < k + 1 → (ls.getD j al0).may = true ∧ (ls.getD j al0).lab.size ≤ 15 ∧ (ls.getD j al0).tgt.size ≤ 15) := fun h1 h2 h3 j hj => by
      rcases Nat.lt_or_ge j k with h | h
      · exact HAL.out j h
      · rw [show j = k by omega]; exact ⟨h1, h2, h3⟩
    have HOL : Hid (∀ j, (Value.slice oa acc.length oc).ownBlock = some j → j < wr.heap.size) := fun j hj => (HO.out.lt j hj).2
    clear hc HAC HAL
    generalize (ls.getD k al0) = x at *
    have HM1 := Lib.hid (fun W => alm_any x W HX.out)
    unfold AL.val AL.cells at HM1
    generalize x.may = my at *
    obtain ⟨lab, ⟨xo, xa, xb, xc⟩, tgt⟩ := x
    simp only at a0 a1 a2 a3 a4 a5 HM1 HAL1
    have G1 : Hid ((wr.alloc (.cells #[.string lab, .int .u8 (xo : Int), .int .u8 (xa : Int), .int .u16 (xb : Int), .int .u32 (xc : Int), .string tgt] 34)).heap[wr.heap.size]? = some (.cells #[.string lab, .int .u8 (xo : Int), .int .u8 (xa : Int), .int .u16 (xb : Int), .int .u32 (xc : Int), .string tgt] 34 (0, 0))) := heap_alloc_new _ _
    have BX : Hid (Below w2.heap.size w2 (wr.alloc (.cells #[.string lab, .int .u8 (xo : Int), .int .u8 (xa : Int), .int .u16 (xb : Int), .int .u32 (xc : Int), .string tgt] 34))) := HB.out.alloc HB.out.size _
    have O1 := Lib.hid (HO.out.alloc (.cells #[.string lab, .int .u8 (xo : Int), .int .u8 (xa : Int), .int .u16 (xb : Int), .int .u32 (xc : Int), .string tgt] 34))
    have HGB : Hid (w2.heap.size ≤ wr.heap.size) := HB.out.size
    go_upto_region 9 with fail
    generalize wr.alloc (.cells #[.string lab, .int .u8 (xo : Int), .int .u8 (xa : Int), .int .u16 (xb : Int), .int .u32 (xc : Int), .string tgt] 34) = w5 at *
    generalize wr.heap.size = g at *
    clear a0 a1 a2 a3 a4 a5 HB BB HO
    have c0 := cell_row (j := 0) G1.out rfl
    have c1 := cell_row (j := 1) G1.out rfl
    have c2 := cell_row (j := 2) G1.out rfl
    have c3 := cell_row (j := 3) G1.out rfl
    have c4 := cell_row (j := 4) G1.out rfl
    have c5 := cell_row (j := 5) G1.out rfl
    have cz := heap_lt G1.out
    go_wp2_with fail
    refine (HM1.out _).mono ?_
    rintro e w4 ⟨rfl, hb6⟩
    have BB4 : Hid (Below w2.heap.size w2 w4) := BX.out.trans (hb6.mono BX.out.size)
    have G4 := Lib.hid (kept G1.out hb6)
    have O4 := Lib.hid (own_below O1.out hb6)
    clear hb6 BX G1 O1 c0 c1 c2 c3 c4 c5 cz HM1
    have c0 := cell_row (j := 0) G4.out rfl
    have c1 := cell_row (j := 1) G4.out rfl
    have c2 := cell_row (j := 2) G4.out rfl
    have c3 := cell_row (j := 3) G4.out rfl
    have c4 := cell_row (j := 4) G4.out rfl
    have c5 := cell_row (j := 5) G4.out rfl
    have cz := heap_lt G4.out
    have BZ : Hid (Below w.heap.size w w4) := B2.out.trans (BB4.out.mono B2.out.size)
    cases my with
    | false =>
      go_wp2_with fail
      go_ret
      exact ⟨rfl, BZ.out⟩
    | true =>
    by_cases h1 : 15 < lab.size
    · have t3 : decide ((15 : Int) < (lab.size : Int)) = true := decide_eq_true (by omega)
      go_wp2_with fail
      go_ret
      exact ⟨rfl, BZ.out⟩
    have t3 : decide ((15 : Int) < (lab.size : Int)) = false := decide_eq_false (by omega)
    by_cases h2 : 15 < tgt.size
    · have t4 : decide ((15 : Int) < (tgt.size : Int)) = true := decide_eq_true (by omega)
      go_wp2_with fail
      go_ret
      exact ⟨rfl, BZ.out⟩
    have t4 : decide ((15 : Int) < (tgt.size : Int)) = false := decide_eq_false (by omega)
    have HAL2 := Lib.hid (HAL1.out rfl (by omega) (by omega))
    have HRL : Hid (∀ h : lab.toList.isEmpty = true, renB lab = lab) := fun h => by unfold renB; rw [if_pos h]
    have HRN : Hid (∀ h : lab.toList.isEmpty = false, renB lab = lab ++ ⟨#[95]⟩) := fun h => by unfold renB; rw [if_neg (by rw [h]; decide)]; rfl
    have HTL : Hid (∀ h : tgt.toList.isEmpty = true, renB tgt = tgt) := fun h => by unfold renB; rw [if_pos h]
    have HTN : Hid (∀ h : tgt.toList.isEmpty = false, renB tgt = tgt ++ ⟨#[95]⟩) := fun h => by unfold renB; rw [if_neg (by rw [h]; decide)]; rfl
    clear HAL1 BZ
    go_upto_region 11 with fail
    clear c0 c1 c2 c3 c4 c5 cz
    cases hle : lab.toList.isEmpty with
    | true =>
      have HXL : Hid (renB lab = lab) := HRL.out hle
      clear HRL HRN
      have c0 := cell_row (j := 0) G4.out rfl
      have c1 := cell_row (j := 1) G4.out rfl
      have c2 := cell_row (j := 2) G4.out rfl
      have c3 := cell_row (j := 3) G4.out rfl
      have c4 := cell_row (j := 4) G4.out rfl
      have c5 := cell_row (j := 5) G4.out rfl
      have cz := heap_lt G4.out
      go_upto_region 13 with fail
      clear c0 c1 c2 c3 c4 c5 cz
      cases hte : tgt.toList.isEmpty with
      | true =>
        have HXT : Hid (renB tgt = tgt) := HTL.out hte
        clear HTL HTN
        have c0 := cell_row (j := 0) G4.out rfl
        have c1 := cell_row (j := 1) G4.out rfl
        have c2 := cell_row (j := 2) G4.out rfl
        have c3 := cell_row (j := 3) G4.out rfl
        have c4 := cell_row (j := 4) G4.out rfl
        have c5 := cell_row (j := 5) G4.out rfl
        have cz := heap_lt G4.out
        go_upto_region 15 with fail
        clear c0 c1 c2 c3 c4 c5 cz
        have c0 := cell_row (j := 0) G4.out rfl
        have c1 := cell_row (j := 1) G4.out rfl
        have c2 := cell_row (j := 2) G4.out rfl
        have c3 := cell_row (j := 3) G4.out rfl
        have c4 := cell_row (j := 4) G4.out rfl
        have c5 := cell_row (j := 5) G4.out rfl
        have cz := heap_lt G4.out
        -- the line lies in block g of w4; it is appended
        have HW : Hid (∀ j u, [Value.string lab, .int .u8 (xo : Int), .int .u8 (xa : Int), .int .u16 (xb : Int), .int .u32 (xc : Int), .string tgt][j]? = some u → (w4.alloc (.cells #[.string lab, .int .u8 (xo : Int), .int .u8 (xa : Int), .int .u16 (xb : Int), .int .u32 (xc : Int), .string tgt] 34)).cell? ((⟨w4.heap.size, 0, none⟩ : Addr).add j) = some u) := six_news _ _ _ _ _ _ _ _
        have OA := Lib.hid (O4.out.alloc (.cells #[.string lab, .int .u8 (xo : Int), .int .u8 (xa : Int), .int .u16 (xb : Int), .int .u32 (xc : Int), .string tgt] 34))
        have HZ : Hid (w2.heap.size ≤ w4.heap.size) := BB4.out.size
        go_wp2_with (at_builtin; refine wpList_append_own _ rfl _ _ 22 rfl (w2.heap.size) 34 i0 (.agg #[.string ⟨#[]⟩, .int .u8 0, .int .u8 0, .int .u16 0, .int .u32 0, .string ⟨#[]⟩]) 6 40 Tryz.underlying22 HIn.out HZ0.out HZ1.out HZ2.out rfl (by decide) (.slice oa acc.length oc) acc.length _ rfl OA.out ⟨w4.heap.size, 0, none⟩ 1 1 [.string lab, .int .u8 (xo : Int), .int .u8 (xa : Int), .int .u16 (xb : Int), .int .u32 (xc : Int), .string tgt] rfl rfl HW.out (fun u hu => by simp at hu; rcases hu with rfl | rfl | rfl | rfl | rfl | rfl <;> rfl) (by unfold maxLen; omega) (by omega) (by simp; have := HZ.out; omega) ?_)
        intro v6 w6 ho6 hg6 _
        have BB6 : Hid (Below (w2.heap.size) w2 w6) := (BB4.out.alloc BB4.out.size _).grown hg6 (by simp; have := HZ.out; omega) (fun j hj => (O4.out.lt j hj).1)
        have O6 : Hid (w6.ownsRow (w2.heap.size) 34 6 v6 (acc ++ [(⟨lab, ⟨xo, xa, xb, xc⟩, tgt⟩ : AL)]).length (alVs (acc ++ [⟨lab, ⟨xo, xa, xb, xc⟩, tgt⟩]))) := by
          show World.ownsRow _ _ _ _ _ _ _
          rw [← alVs_snoc, List.length_append]; exact ho6
        clear ho6 hg6 OA HW
        obtain ⟨oa6, oc6, hv6, _, _, _⟩ := als_of_own O6.out
        subst hv6
        have HAC3 : Hid (acc ++ [⟨lab, ⟨xo, xa, xb, xc⟩, tgt⟩] = (ls.take (k + 1)).map ren) := by
          show _ = _
          rw [← HXL.out, ← HXT.out]; exact HAC2.out
        clear HAC2 c0 c1 c2 c3 c4 c5 cz G4
        go_wp2_with fail
        refine ⟨⟨k + 1, acc ++ [⟨lab, ⟨xo, xa, xb, xc⟩, tgt⟩], oa6, oc6, rfl, by omega, by rw [List.length_append]; simp; omega, by go_num, HAC3, HAL2, O6, BB6⟩, ?_⟩
        simp [intOf]; omega
      | false =>
        have HXT : Hid (renB tgt = tgt ++ ⟨#[95]⟩) := HTN.out hte
        clear HTL HTN
        have c0 := cell_row (j := 0) G4.out rfl
        have c1 := cell_row (j := 1) G4.out rfl
        have c2 := cell_row (j := 2) G4.out rfl
        have c3 := cell_row (j := 3) G4.out rfl
        have c4 := cell_row (j := 4) G4.out rfl
        have c5 := cell_row (j := 5) G4.out rfl
        have cz := heap_lt G4.out
        have e5 : (w4).frozen? ⟨g, 5, none⟩ = false := frozen_of_row _ _ _ _ _ G4.out
        -- a cell of the line is set
        have GXn : Hid ((w4.setCell ⟨g, 5, none⟩ (.string (tgt ++ ⟨#[95]⟩))).heap[g]? = some (.cells #[.string lab, .int .u8 (xo : Int), .int .u8 (xa : Int), .int .u16 (xb : Int), .int .u32 (xc : Int), .string (tgt ++ ⟨#[95]⟩)] 34 (0, 0))) := heap_setCell_same _ _ _ _ _ _ G4.out
        have BBn : Hid (Below w2.heap.size w2 (w4.setCell ⟨g, 5, none⟩ (.string (tgt ++ ⟨#[95]⟩)))) := BB4.out.setCell (p := ⟨g, 5, none⟩) HGB.out _
        have On : Hid ((w4.setCell ⟨g, 5, none⟩ (.string (tgt ++ ⟨#[95]⟩))).ownsRow w2.heap.size 34 6 (.slice oa acc.length oc) acc.length (alVs acc)) := own_same O4.out fun j hj => heap_setCell_other _ _ _ _ (by have := HOL.out j hj; show j ≠ g; omega)
        go_upto_region 15 with fail
        generalize (w4).setCell ⟨g, 5, none⟩ (.string (tgt ++ ⟨#[95]⟩)) = w8 at *
        generalize tgt ++ ⟨#[95]⟩ = xt at *
        clear G4 O4 BB4 c0 c1 c2 c3 c4 c5 cz e5
        have G4 := GXn; have O4 := On; have BB4 := BBn
        clear GXn On BBn
        have c0 := cell_row (j := 0) G4.out rfl
        have c1 := cell_row (j := 1) G4.out rfl
        have c2 := cell_row (j := 2) G4.out rfl
        have c3 := cell_row (j := 3) G4.out rfl
        have c4 := cell_row (j := 4) G4.out rfl
        have c5 := cell_row (j := 5) G4.out rfl
        have cz := heap_lt G4.out
        -- the line lies in block g of w8; it is appended
        have HW : Hid (∀ j u, [Value.string lab, .int .u8 (xo : Int), .int .u8 (xa : Int), .int .u16 (xb : Int), .int .u32 (xc : Int), .string xt][j]? = some u → (w8.alloc (.cells #[.string lab, .int .u8 (xo : Int), .int .u8 (xa : Int), .int .u16 (xb : Int), .int .u32 (xc : Int), .string xt] 34)).cell? ((⟨w8.heap.size, 0, none⟩ : Addr).add j) = some u) := six_news _ _ _ _ _ _ _ _
        have OA := Lib.hid (O4.out.alloc (.cells #[.string lab, .int .u8 (xo : Int), .int .u8 (xa : Int), .int .u16 (xb : Int), .int .u32 (xc : Int), .string xt] 34))
        have HZ : Hid (w2.heap.size ≤ w8.heap.size) := BB4.out.size
        go_wp2_with (at_builtin; refine wpList_append_own _ rfl _ _ 22 rfl (w2.heap.size) 34 i0 (.agg #[.string ⟨#[]⟩, .int .u8 0, .int .u8 0, .int .u16 0, .int .u32 0, .string ⟨#[]⟩]) 6 40 Tryz.underlying22 HIn.out HZ0.out HZ1.out HZ2.out rfl (by decide) (.slice oa acc.length oc) acc.length _ rfl OA.out ⟨w8.heap.size, 0, none⟩ 1 1 [.string lab, .int .u8 (xo : Int), .int .u8 (xa : Int), .int .u16 (xb : Int), .int .u32 (xc : Int), .string xt] rfl rfl HW.out (fun u hu => by simp at hu; rcases hu with rfl | rfl | rfl | rfl | rfl | rfl <;> rfl) (by unfold maxLen; omega) (by omega) (by simp; have := HZ.out; omega) ?_)
        intro v6 w6 ho6 hg6 _
        have BB6 : Hid (Below (w2.heap.size) w2 w6) := (BB4.out.alloc BB4.out.size _).grown hg6 (by simp; have := HZ.out; omega) (fun j hj => (O4.out.lt j hj).1)
        have O6 : Hid (w6.ownsRow (w2.heap.size) 34 6 v6 (acc ++ [(⟨lab, ⟨xo, xa, xb, xc⟩, xt⟩ : AL)]).length (alVs (acc ++ [⟨lab, ⟨xo, xa, xb, xc⟩, xt⟩]))) := by
          show World.ownsRow _ _ _ _ _ _ _
          rw [← alVs_snoc, List.length_append]; exact ho6
        clear ho6 hg6 OA HW
        obtain ⟨oa6, oc6, hv6, _, _, _⟩ := als_of_own O6.out
        subst hv6
        have HAC3 : Hid (acc ++ [⟨lab, ⟨xo, xa, xb, xc⟩, xt⟩] = (ls.take (k + 1)).map ren) := by
          show _ = _
          rw [← HXL.out, ← HXT.out]; exact HAC2.out
        clear HAC2 c0 c1 c2 c3 c4 c5 cz G4
        go_wp2_with fail
        refine ⟨⟨k + 1, acc ++ [⟨lab, ⟨xo, xa, xb, xc⟩, xt⟩], oa6, oc6, rfl, by omega, by rw [List.length_append]; simp; omega, by go_num, HAC3, HAL2, O6, BB6⟩, ?_⟩
        simp [intOf]; omega
    | false =>
      have HXL : Hid (renB lab = lab ++ ⟨#[95]⟩) := HRN.out hle
      clear HRL HRN
      have c0 := cell_row (j := 0) G4.out rfl
      have c1 := cell_row (j := 1) G4.out rfl
      have c2 := cell_row (j := 2) G4.out rfl
      have c3 := cell_row (j := 3) G4.out rfl
      have c4 := cell_row (j := 4) G4.out rfl
      have c5 := cell_row (j := 5) G4.out rfl
      have cz := heap_lt G4.out
      have e0 : w4.frozen? ⟨g, 0, none⟩ = false := frozen_of_row _ _ _ _ _ G4.out
      -- a cell of the line is set
      have GXn : Hid ((w4.setCell ⟨g, 0, none⟩ (.string (lab ++ ⟨#[95]⟩))).heap[g]? = some (.cells #[.string (lab ++ ⟨#[95]⟩), .int .u8 (xo : Int), .int .u8 (xa : Int), .int .u16 (xb : Int), .int .u32 (xc : Int), .string tgt] 34 (0, 0))) := heap_setCell_same _ _ _ _ _ _ G4.out
      have BBn : Hid (Below w2.heap.size w2 (w4.setCell ⟨g, 0, none⟩ (.string (lab ++ ⟨#[95]⟩)))) := BB4.out.setCell (p := ⟨g, 0, none⟩) HGB.out _
      have On : Hid ((w4.setCell ⟨g, 0, none⟩ (.string (lab ++ ⟨#[95]⟩))).ownsRow w2.heap.size 34 6 (.slice oa acc.length oc) acc.length (alVs acc)) := own_same O4.out fun j hj => heap_setCell_other _ _ _ _ (by have := HOL.out j hj; show j ≠ g; omega)
      go_upto_region 13 with fail
      generalize w4.setCell ⟨g, 0, none⟩ (.string (lab ++ ⟨#[95]⟩)) = w7 at *
      generalize lab ++ ⟨#[95]⟩ = xl at *
      clear G4 O4 BB4 c0 c1 c2 c3 c4 c5 cz e0
      have G4 := GXn; have O4 := On; have BB4 := BBn
      clear GXn On BBn
      cases hte : tgt.toList.isEmpty with
      | true =>
        have HXT : Hid (renB tgt = tgt) := HTL.out hte
        clear HTL HTN
        have c0 := cell_row (j := 0) G4.out rfl
        have c1 := cell_row (j := 1) G4.out rfl
        have c2 := cell_row (j := 2) G4.out rfl
        have c3 := cell_row (j := 3) G4.out rfl
        have c4 := cell_row (j := 4) G4.out rfl
        have c5 := cell_row (j := 5) G4.out rfl
        have cz := heap_lt G4.out
        go_upto_region 15 with fail
        clear c0 c1 c2 c3 c4 c5 cz
        have c0 := cell_row (j := 0) G4.out rfl
        have c1 := cell_row (j := 1) G4.out rfl
        have c2 := cell_row (j := 2) G4.out rfl
        have c3 := cell_row (j := 3) G4.out rfl
        have c4 := cell_row (j := 4) G4.out rfl
        have c5 := cell_row (j := 5) G4.out rfl
        have cz := heap_lt G4.out
        -- the line lies in block g of w7; it is appended
        have HW : Hid (∀ j u, [Value.string xl, .int .u8 (xo : Int), .int .u8 (xa : Int), .int .u16 (xb : Int), .int .u32 (xc : Int), .string tgt][j]? = some u → (w7.alloc (.cells #[.string xl, .int .u8 (xo : Int), .int .u8 (xa : Int), .int .u16 (xb : Int), .int .u32 (xc : Int), .string tgt] 34)).cell? ((⟨w7.heap.size, 0, none⟩ : Addr).add j) = some u) := six_news _ _ _ _ _ _ _ _
        have OA := Lib.hid (O4.out.alloc (.cells #[.string xl, .int .u8 (xo : Int), .int .u8 (xa : Int), .int .u16 (xb : Int), .int .u32 (xc : Int), .string tgt] 34))
        have HZ : Hid (w2.heap.size ≤ w7.heap.size) := BB4.out.size
        go_wp2_with (at_builtin; refine wpList_append_own _ rfl _ _ 22 rfl (w2.heap.size) 34 i0 (.agg #[.string ⟨#[]⟩, .int .u8 0, .int .u8 0, .int .u16 0, .int .u32 0, .string ⟨#[]⟩]) 6 40 Tryz.underlying22 HIn.out HZ0.out HZ1.out HZ2.out rfl (by decide) (.slice oa acc.length oc) acc.length _ rfl OA.out ⟨w7.heap.size, 0, none⟩ 1 1 [.string xl, .int .u8 (xo : Int), .int .u8 (xa : Int), .int .u16 (xb : Int), .int .u32 (xc : Int), .string tgt] rfl rfl HW.out (fun u hu => by simp at hu; rcases hu with rfl | rfl | rfl | rfl | rfl | rfl <;> rfl) (by unfold maxLen; omega) (by omega) (by simp; have := HZ.out; omega) ?_)
        intro v6 w6 ho6 hg6 _
        have BB6 : Hid (Below (w2.heap.size) w2 w6) := (BB4.out.alloc BB4.out.size _).grown hg6 (by simp; have := HZ.out; omega) (fun j hj => (O4.out.lt j hj).1)
        have O6 : Hid (w6.ownsRow (w2.heap.size) 34 6 v6 (acc ++ [(⟨xl, ⟨xo, xa, xb, xc⟩, tgt⟩ : AL)]).length (alVs (acc ++ [⟨xl, ⟨xo, xa, xb, xc⟩, tgt⟩]))) := by
          show World.ownsRow _ _ _ _ _ _ _
          rw [← alVs_snoc, List.length_append]; exact ho6
        clear ho6 hg6 OA HW
        obtain ⟨oa6, oc6, hv6, _, _, _⟩ := als_of_own O6.out
        subst hv6
        have HAC3 : Hid (acc ++ [⟨xl, ⟨xo, xa, xb, xc⟩, tgt⟩] = (ls.take (k + 1)).map ren) := by
          show _ = _
          rw [← HXL.out, ← HXT.out]; exact HAC2.out
        clear HAC2 c0 c1 c2 c3 c4 c5 cz G4
        go_wp2_with fail
        refine ⟨⟨k + 1, acc ++ [⟨xl, ⟨xo, xa, xb, xc⟩, tgt⟩], oa6, oc6, rfl, by omega, by rw [List.length_append]; simp; omega, by go_num, HAC3, HAL2, O6, BB6⟩, ?_⟩
        simp [intOf]; omega
      | false =>
        have HXT : Hid (renB tgt = tgt ++ ⟨#[95]⟩) := HTN.out hte
        clear HTL HTN
        have c0 := cell_row (j := 0) G4.out rfl
        have c1 := cell_row (j := 1) G4.out rfl
        have c2 := cell_row (j := 2) G4.out rfl
        have c3 := cell_row (j := 3) G4.out rfl
        have c4 := cell_row (j := 4) G4.out rfl
        have c5 := cell_row (j := 5) G4.out rfl
        have cz := heap_lt G4.out
        have e5 : (w7).frozen? ⟨g, 5, none⟩ = false := frozen_of_row _ _ _ _ _ G4.out
        -- a cell of the line is set
        have GXn : Hid ((w7.setCell ⟨g, 5, none⟩ (.string (tgt ++ ⟨#[95]⟩))).heap[g]? = some (.cells #[.string xl, .int .u8 (xo : Int), .int .u8 (xa : Int), .int .u16 (xb : Int), .int .u32 (xc : Int), .string (tgt ++ ⟨#[95]⟩)] 34 (0, 0))) := heap_setCell_same _ _ _ _ _ _ G4.out
        have BBn : Hid (Below w2.heap.size w2 (w7.setCell ⟨g, 5, none⟩ (.string (tgt ++ ⟨#[95]⟩)))) := BB4.out.setCell (p := ⟨g, 5, none⟩) HGB.out _
        have On : Hid ((w7.setCell ⟨g, 5, none⟩ (.string (tgt ++ ⟨#[95]⟩))).ownsRow w2.heap.size 34 6 (.slice oa acc.length oc) acc.length (alVs acc)) := own_same O4.out fun j hj => heap_setCell_other _ _ _ _ (by have := HOL.out j hj; show j ≠ g; omega)
        go_upto_region 15 with fail
        generalize (w7).setCell ⟨g, 5, none⟩ (.string (tgt ++ ⟨#[95]⟩)) = w8 at *
        generalize tgt ++ ⟨#[95]⟩ = xt at *
        clear G4 O4 BB4 c0 c1 c2 c3 c4 c5 cz e5
        have G4 := GXn; have O4 := On; have BB4 := BBn
        clear GXn On BBn
        have c0 := cell_row (j := 0) G4.out rfl
        have c1 := cell_row (j := 1) G4.out rfl
        have c2 := cell_row (j := 2) G4.out rfl
        have c3 := cell_row (j := 3) G4.out rfl
        have c4 := cell_row (j := 4) G4.out rfl
        have c5 := cell_row (j := 5) G4.out rfl
        have cz := heap_lt G4.out
        -- the line lies in block g of w8; it is appended
        have HW : Hid (∀ j u, [Value.string xl, .int .u8 (xo : Int), .int .u8 (xa : Int), .int .u16 (xb : Int), .int .u32 (xc : Int), .string xt][j]? = some u → (w8.alloc (.cells #[.string xl, .int .u8 (xo : Int), .int .u8 (xa : Int), .int .u16 (xb : Int), .int .u32 (xc : Int), .string xt] 34)).cell? ((⟨w8.heap.size, 0, none⟩ : Addr).add j) = some u) := six_news _ _ _ _ _ _ _ _
        have OA := Lib.hid (O4.out.alloc (.cells #[.string xl, .int .u8 (xo : Int), .int .u8 (xa : Int), .int .u16 (xb : Int), .int .u32 (xc : Int), .string xt] 34))
        have HZ : Hid (w2.heap.size ≤ w8.heap.size) := BB4.out.size
        go_wp2_with (at_builtin; refine wpList_append_own _ rfl _ _ 22 rfl (w2.heap.size) 34 i0 (.agg #[.string ⟨#[]⟩, .int .u8 0, .int .u8 0, .int .u16 0, .int .u32 0, .string ⟨#[]⟩]) 6 40 Tryz.underlying22 HIn.out HZ0.out HZ1.out HZ2.out rfl (by decide) (.slice oa acc.length oc) acc.length _ rfl OA.out ⟨w8.heap.size, 0, none⟩ 1 1 [.string xl, .int .u8 (xo : Int), .int .u8 (xa : Int), .int .u16 (xb : Int), .int .u32 (xc : Int), .string xt] rfl rfl HW.out (fun u hu => by simp at hu; rcases hu with rfl | rfl | rfl | rfl | rfl | rfl <;> rfl) (by unfold maxLen; omega) (by omega) (by simp; have := HZ.out; omega) ?_)
        intro v6 w6 ho6 hg6 _
        have BB6 : Hid (Below (w2.heap.size) w2 w6) := (BB4.out.alloc BB4.out.size _).grown hg6 (by simp; have := HZ.out; omega) (fun j hj => (O4.out.lt j hj).1)
        have O6 : Hid (w6.ownsRow (w2.heap.size) 34 6 v6 (acc ++ [(⟨xl, ⟨xo, xa, xb, xc⟩, xt⟩ : AL)]).length (alVs (acc ++ [⟨xl, ⟨xo, xa, xb, xc⟩, xt⟩]))) := by
          show World.ownsRow _ _ _ _ _ _ _
          rw [← alVs_snoc, List.length_append]; exact ho6
        clear ho6 hg6 OA HW
        obtain ⟨oa6, oc6, hv6, _, _, _⟩ := als_of_own O6.out
        subst hv6
        have HAC3 : Hid (acc ++ [⟨xl, ⟨xo, xa, xb, xc⟩, xt⟩] = (ls.take (k + 1)).map ren) := by
          show _ = _
          rw [← HXL.out, ← HXT.out]; exact HAC2.out
        clear HAC2 c0 c1 c2 c3 c4 c5 cz G4
        go_wp2_with fail
        refine ⟨⟨k + 1, acc ++ [⟨xl, ⟨xo, xa, xb, xc⟩, xt⟩], oa6, oc6, rfl, by omega, by rw [List.length_append]; simp; omega, by go_num, HAC3, HAL2, O6, BB6⟩, ?_⟩
        simp [intOf]; omega
theorem labels_walk (a : Option Addr) (len cap : Nat) (w : World) (w0 : ReadsC w 22 [.slice a len cap]) (hL : LibW w) :
    Calls Tryz.prog 7 #[.slice a len cap] w fun e w' => e = .returned (.bool true) ∧ Below w.heap.size w w' := by
  obtain ⟨h1, h2, ls, rfl, hA, hok⟩ := reads_als w0
  exact labels_any ls a cap w hA hok (by unfold maxLen at h2; omega) hL
end Go.Proofs.YtalmgjeiopjhlaaGreatDoor
