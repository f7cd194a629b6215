/- AsmBack. -/
import Derived.Test.YtalmgjeiopjhlaaGreatDoorAsmBl
import Derived.Test.YtalmgjeiopjhlaaGreatDoorAsmY
import Derived.Test.YtalmgjeiopjhlaaGreatDoorAsmGr
import Derived.Test.YtalmgjeiopjhlaaGreatDoorCls
namespace Go.Proofs.YtalmgjeiopjhlaaGreatDoor
open Go.Shelf Go.RowKit
set_option linter.unusedVariables false
set_option linter.unusedSimpArgs false
theorem textS_size {ls : List AL} (hok : ∀ i, i < ls.length → (ls.getD i al0).ok) : (textS ls).size ≤ 99 * ls.length := by
  rw [← size_list]
  unfold textS
  cases h : first (mayL ls) ls.length with
  | some i => show ([] : List UInt8).length ≤ _; simp
  | none =>
    show (ByteArray.mk (textK ls ls.length).toArray).data.toList.length ≤ _
    rw [show (ByteArray.mk (textK ls ls.length).toArray).data.toList = textK ls ls.length by simp]
    exact textK_len hok _ (Nat.le_refl _) (fun j hj => by
      unfold first at h
      have := List.find?_eq_none.1 h j (List.mem_range.2 hj)
      simpa using this)
theorem textS_bad {ls : List AL} {k : Nat} (hk : k < ls.length) (h : mayL ls k = true) : textS ls = ⟨#[]⟩ := by
  unfold textS
  cases hf : first (mayL ls) ls.length with
  | some i => rfl
  | none =>
    unfold first at hf
    have := List.find?_eq_none.1 hf k (List.mem_range.2 hk)
    exact absurd h this
theorem bys_of_own {w : World} {base : Nat} {v : Value} {ls : List Ins} (h : w.ownsRow base 5 1 v (8 * ls.length) (bysK ls ls.length)) : ∃ a c, v = .slice a (8 * ls.length) c ∧ 8 * ls.length ≤ c ∧ c ≤ maxLen ∧ SliceAt w a (8 * ls.length) (bV (byX ls)) := by
  rw [bysK_eq] at h
  generalize 8 * ls.length = n at h ⊢
  rcases h.2 with ⟨rfl, h0⟩ | ⟨g, cap, cur, rfl, hb, hg, hn, hm, hs, htk⟩
  · rw [h0]
    exact ⟨none, 0, rfl, Nat.le_refl _, by unfold maxLen; omega, .inl rfl⟩
  · refine ⟨_, cap, rfl, hn, hm, .inr ⟨g, 0, rfl, heap_lt hg, fun i hi => ?_⟩⟩
    have e : ((List.range n).map (bV (byX ls)))[i]? = some (bV (byX ls) i) := by
      rw [List.getElem?_map, List.getElem?_range hi]; rfl
    rw [← htk, List.getElem?_take, if_pos (by omega)] at e
    rw [Nat.zero_add]
    exact cell_row hg (by simpa using e)
def AsmP (n : Nat) (r : List Ins × Nat × Nat) : Prop := r.2.2 = 101 ∨ r.2.2 = 0 ∧ r.1.length = n ∧ (∀ i, i < r.1.length → (r.1.getD i noIns).ok ∧ (r.1.getD i noIns).may = true)
set_option maxHeartbeats 4000000 in
set_option maxRecDepth 100000 in
theorem back_any (ls : List AL) (s : ByteArray) (a : Option Addr) (c : Nat) (w : World) (hA : AlsAt w a ls) (hok : ∀ i, i < ls.length → (ls.getD i al0).ok) (hm : ls.length ≤ 9223372036854775807) (h0 : s.size ≤ 9223372036854775807) (hL : LibW w) :
    Calls Tryz.prog 6 #[.slice a ls.length c, .string s] w fun e w' => e = .returned (.bool true) ∧ Below w.heap.size w w' := by
  have HK := Lib.hid (known_any w hL)
  have HL := Lib.hid hL
  have HA := Lib.hid hA; have HOKS := Lib.hid hok
  have HG := Lib.hid (fun W hW => great_any ls a c W hW hok hm)
  have HS := Lib.hid (fun W hW => asm_any ls a c W hW hok hm)
  have HT := Lib.hid (fun h W hW ht => text_all ls a c W hW hok h ht)
  have HTS := Lib.hid (textS_size hok)
  have HTB : Hid (∀ k, k < ls.length → mayL ls k = true → textS ls = ⟨#[]⟩) := fun k hk h => textS_bad hk h
  have HTP := Lib.hid (fun (h : (textS ls).size ≤ 9223372036854775807) W hW => parse_any (textS ls) W h hW)
  have HB1 : Hid ((∀ i, i < ls.length → (ls.getD i al0).may = true) → ls.length ≤ 3000 → parseS (textS ls).data.toList = (ls, 0, 0)) := fun h1 h2 => back1 h1 hok (by omega) (by
    have := textK_len hok ls.length (Nat.le_refl _) (fun j hj => by unfold mayL; rw [h1 j hj]; rfl)
    omega)
  have HAC : Hid ((∀ i, i < ls.length → (ls.getD i al0).may = true) → ls.length ≤ 3000 → AsmP ls.length (asmS ls)) := fun h1 h2 => asm_code h1 hok (by omega)
  clear hL hA hok
  go_enter Tryz.func6, Tryz.ntmps6
  go_wp2_with fail
  refine HK.out.mono ?_
  rintro e w1 ⟨rfl, hb1⟩
  have B1 := Lib.hid hb1
  clear hb1 HK
  go_wp2_with fail
  refine (HG.out w1 (HA.out.below B1.out)).mono ?_
  rintro e w2 ⟨b, rfl, hb, hb2⟩
  have HB3 := Lib.hid hb
  have B2 : Hid (Below w.heap.size w w2) := B1.out.trans (hb2.mono B1.out.size)
  clear hb hb2 B1 HG
  cases b with
  | true =>
    go_wp2_with fail
    go_ret
    exact ⟨rfl, B2.out⟩
  | false =>
  have hn3 : ls.length ≤ 3000 := HB3.out rfl
  clear HB3
  by_cases hbig : 20000 < s.size
  · have t1 : decide ((20000 : Int) < (s.size : Int)) = true := decide_eq_true (by omega)
    go_wp2_with fail
    go_ret
    exact ⟨rfl, B2.out⟩
  have t1 : decide ((20000 : Int) < (s.size : Int)) = false := decide_eq_false (by omega)
  go_wp2_with fail
  go_loopw [28] (fun i wr => ∃ k : Nat, k ≤ ls.length ∧ i = .int .i64 (k : Int) ∧ Hid (∀ j, j < k → (ls.getD j al0).may = true) ∧ Hid (Below w2.heap.size w2 wr)) (fun i _ => ls.length - (intOf i).toNat)
  case atStart => exact ⟨0, Nat.zero_le _, rfl, (fun j hj => absurd hj (Nat.not_lt_zero _)), Below.refl _ _⟩
  case round =>
    obtain ⟨k, hk, rfl, HALL, HB⟩ := hrel
    have BB : Hid (Below w.heap.size w wr) := B2.out.trans (HB.out.mono B2.out.size)
    rcases Nat.lt_or_ge k ls.length with hk2 | hk2
    case inr =>
      obtain rfl : k = ls.length := by omega
      have t2 : decide ((ls.length : Int) < (ls.length : Int)) = false := by simp
      have HPE := Lib.hid (HB1.out HALL.out hn3)
      have HAE := Lib.hid (HAC.out HALL.out hn3)
      clear HTB HB1 HAC HALL HB B2
      generalize asmS ls = r at *
      obtain ⟨is, rn, rc⟩ := r
      have htz : (textS ls).size ≤ 9223372036854775807 := by have := HTS.out; omega
      have HTP := Lib.hid (HTP.out htz)
      have HT := Lib.hid (HT.out (by omega))
      clear HTS
      generalize textS ls = tx at *
      rw [HPE.out] at HTP
      clear HPE
      go_wp2_with fail
      refine (HT.out wr (HA.out.below BB.out) (HL.out.below BB.out).tab).mono ?_
      rintro e w3 ⟨rfl, hb3⟩
      have B3 : Hid (Below w.heap.size w w3) := BB.out.trans (hb3.mono BB.out.size)
      clear hb3 BB HT
      go_wp2_with fail
      refine (HTP.out w3 (HL.out.below B3.out)).mono ?_
      rintro e w4 ⟨⟨v, rfl, hv⟩, hb4⟩
      obtain ⟨ma, mc, rfl, _, _, hma⟩ := als_of_own (ls := ls) hv
      have MA := Lib.hid hma
      have B4 : Hid (Below w.heap.size w w4) := B3.out.trans (hb4.mono B3.out.size)
      clear hv hma hb4 B3 HTP
      have HS1 := Lib.hid (same_true ls ma a mc c w4 MA.out (HA.out.below B4.out) (by omega))
      go_wp2_with fail
      refine HS1.out.mono ?_
      rintro e w5 ⟨rfl, hb5⟩
      have B5 : Hid (Below w.heap.size w w5) := B4.out.trans (hb5.mono B4.out.size)
      clear hb5 B4 HS1 MA
      have HPS := Lib.hid (parse_any s w5 h0 (HL.out.below B5.out))
      have HBK : Hid (∀ m k, parseS s.data.toList = (m, k, 0) → (∀ i, i < m.length → (m.getD i al0).may = true) ∧ (∀ i, i < m.length → (m.getD i al0).ok) ∧ m.length ≤ 16384 ∧ (textK m m.length).length ≤ 20001 ∧ parseS (textS m).data.toList = (m, 0, 0)) := fun m k h => back2 h (by rw [size_list]; omega)
      generalize parseS s.data.toList = q at *
      obtain ⟨m, qn, qc⟩ := q
      go_wp2_with fail
      refine HPS.out.mono ?_
      rintro e w6 ⟨⟨v, rfl, hv⟩, hb6⟩
      obtain ⟨ma, mc, rfl, _, _, hma⟩ := als_of_own (ls := m) hv
      have MA := Lib.hid hma
      have B6 : Hid (Below w.heap.size w w6) := B5.out.trans (hb6.mono B5.out.size)
      clear hv hma hb6 B5 HPS
      by_cases hq : qc = 0
      case neg =>
        have t3 : ((qc : Int) == 0) = false := beq_eq_false_iff_ne.2 (by omega)
        clear HBK MA
        go_wp2_with fail
        refine (HS.out w6 (HA.out.below B6.out)).mono ?_
        rintro e wa ⟨⟨v, rfl, hv⟩, hba⟩
        obtain ⟨ia, ic, rfl, hi1, hi2, hia⟩ := ins_of_own (ls := is) hv
        have IA := Lib.hid hia
        have HI1 := Lib.hid hi1; have HI2 := Lib.hid hi2
        have BA : Hid (Below w.heap.size w wa) := B6.out.trans (hba.mono B6.out.size)
        clear hv hia hba HS hi1 hi2
        rcases HAE.out with hrc | ⟨hrc, hil, hal⟩
        · change rc = 101 at hrc
          subst hrc
          go_wp2_with fail
          go_ret
          exact ⟨rfl, BA.out⟩
        change rc = 0 at hrc
        change is.length = ls.length at hil
        change ∀ i, i < is.length → (is.getD i noIns).ok ∧ (is.getD i noIns).may = true at hal
        subst hrc
        have HBY := Lib.hid (abytes_any is ia ic wa IA.out (fun i hi => (hal i hi).1) (by omega))
        have HRB := Lib.hid (rd_back hal (by omega))
        have HXL := Lib.hid (byX_lt (fun i hi => (hal i hi).1))
        have HIL := Lib.hid hil
        have hil3 : is.length ≤ 3000 := by omega
        clear HAE hal hil
        go_wp2_with fail
        refine HBY.out.mono ?_
        rintro e wb ⟨⟨v, rfl, hv⟩, hbb⟩
        obtain ⟨ba, bc, rfl, hb1, hb2, hba⟩ := bys_of_own hv
        have BA2 := Lib.hid hba
        have IA2 := Lib.hid (IA.out.below hbb)
        have BB2 : Hid (Below w.heap.size w wb) := BA.out.trans (hbb.mono BA.out.size)
        clear hv hba hbb BA HBY IA
        have HRD := Lib.hid (aread_any ba (8 * is.length) bc (byX is) wb BA2.out HXL.out (by omega) hb1 (by unfold maxLen at hb2; omega))
        rw [HRB.out] at HRD
        clear HRB HXL hb1 hb2
        generalize 8 * is.length = bl at *
        go_wp2_with fail
        refine HRD.out.mono ?_
        rintro e wc ⟨⟨v, rfl, hv⟩, hbc⟩
        obtain ⟨da, dc, rfl, _, _, hda⟩ := ins_of_own (ls := is) hv
        have DA := Lib.hid hda
        have IA3 := Lib.hid (IA2.out.below hbc)
        have BC : Hid (Below w.heap.size w wc) := BB2.out.trans (hbc.mono BB2.out.size)
        clear hv hda hbc BB2 HRD IA2 BA2
        have HSC := Lib.hid (scode_true is ia da ic dc wc IA3.out DA.out (by omega))
        clear IA3 DA
        go_wp2_with fail
        refine HSC.out.mono ?_
        rintro e wd ⟨rfl, hbd⟩
        have BD : Hid (Below w.heap.size w wd) := BC.out.trans (hbd.mono BC.out.size)
        clear hbd BC HSC
        go_wp2_with fail
        go_ret
        exact ⟨by simp [HIL.out], BD.out⟩
      subst hq
      obtain ⟨hm1, hm2, hm3, hm4, hm5⟩ := HBK.out m qn rfl
      have HTX := Lib.hid (text_all m ma mc w6 MA.out hm2 (by omega) (HL.out.below B6.out).tab)
      have hts : (textS m).size ≤ 9223372036854775807 := by have := textS_size hm2; omega
      have HPX := Lib.hid (fun W hW => parse_any (textS m) W hts hW)
      rw [hm5] at HPX
      clear HBK hm1 hm2 hm4 hm5 hts
      generalize textS m = tm at *
      go_wp2_with fail
      refine HTX.out.mono ?_
      rintro e w7 ⟨rfl, hb7⟩
      have B7 : Hid (Below w.heap.size w w7) := B6.out.trans (hb7.mono B6.out.size)
      have MA7 := Lib.hid (MA.out.below hb7)
      clear hb7 B6 HTX MA
      go_wp2_with fail
      refine (HPX.out w7 (HL.out.below B7.out)).mono ?_
      rintro e w8 ⟨⟨v, rfl, hv⟩, hb8⟩
      obtain ⟨na, nc, rfl, _, _, hna⟩ := als_of_own (ls := m) hv
      have NA := Lib.hid hna
      have B8 : Hid (Below w.heap.size w w8) := B7.out.trans (hb8.mono B7.out.size)
      have MA8 := Lib.hid (MA7.out.below hb8)
      clear hv hna hb8 B7 HPX MA7
      have HS2 := Lib.hid (same_true m na ma nc mc w8 NA.out MA8.out (by omega))
      go_wp2_with fail
      refine HS2.out.mono ?_
      rintro e w9 ⟨rfl, hb9⟩
      have B9 : Hid (Below w.heap.size w w9) := B8.out.trans (hb9.mono B8.out.size)
      clear hb9 B8 HS2 MA8 NA
      go_wp2_with fail
      refine (HS.out w9 (HA.out.below B9.out)).mono ?_
      rintro e wa ⟨⟨v, rfl, hv⟩, hba⟩
      obtain ⟨ia, ic, rfl, hi1, hi2, hia⟩ := ins_of_own (ls := is) hv
      have IA := Lib.hid hia
      have HI1 := Lib.hid hi1; have HI2 := Lib.hid hi2
      have BA : Hid (Below w.heap.size w wa) := B9.out.trans (hba.mono B9.out.size)
      clear hv hia hba HS hi1 hi2
      rcases HAE.out with hrc | ⟨hrc, hil, hal⟩
      · change rc = 101 at hrc
        subst hrc
        go_wp2_with fail
        go_ret
        exact ⟨rfl, BA.out⟩
      change rc = 0 at hrc
      change is.length = ls.length at hil
      change ∀ i, i < is.length → (is.getD i noIns).ok ∧ (is.getD i noIns).may = true at hal
      subst hrc
      have HBY := Lib.hid (abytes_any is ia ic wa IA.out (fun i hi => (hal i hi).1) (by omega))
      have HRB := Lib.hid (rd_back hal (by omega))
      have HXL := Lib.hid (byX_lt (fun i hi => (hal i hi).1))
      have HIL := Lib.hid hil
      have hil3 : is.length ≤ 3000 := by omega
      clear HAE hal hil
      go_wp2_with fail
      refine HBY.out.mono ?_
      rintro e wb ⟨⟨v, rfl, hv⟩, hbb⟩
      obtain ⟨ba, bc, rfl, hb1, hb2, hba⟩ := bys_of_own hv
      have BA2 := Lib.hid hba
      have IA2 := Lib.hid (IA.out.below hbb)
      have BB2 : Hid (Below w.heap.size w wb) := BA.out.trans (hbb.mono BA.out.size)
      clear hv hba hbb BA HBY IA
      have HRD := Lib.hid (aread_any ba (8 * is.length) bc (byX is) wb BA2.out HXL.out (by omega) hb1 (by unfold maxLen at hb2; omega))
      rw [HRB.out] at HRD
      clear HRB HXL hb1 hb2
      generalize 8 * is.length = bl at *
      go_wp2_with fail
      refine HRD.out.mono ?_
      rintro e wc ⟨⟨v, rfl, hv⟩, hbc⟩
      obtain ⟨da, dc, rfl, _, _, hda⟩ := ins_of_own (ls := is) hv
      have DA := Lib.hid hda
      have IA3 := Lib.hid (IA2.out.below hbc)
      have BC : Hid (Below w.heap.size w wc) := BB2.out.trans (hbc.mono BB2.out.size)
      clear hv hda hbc BB2 HRD IA2 BA2
      have HSC := Lib.hid (scode_true is ia da ic dc wc IA3.out DA.out (by omega))
      clear IA3 DA
      go_wp2_with fail
      refine HSC.out.mono ?_
      rintro e wd ⟨rfl, hbd⟩
      have BD : Hid (Below w.heap.size w wd) := BC.out.trans (hbd.mono BC.out.size)
      clear hbd BC HSC
      go_wp2_with fail
      go_ret
      exact ⟨by simp [HIL.out], BD.out⟩
    have t2 : decide ((k : Int) < (ls.length : Int)) = true := decide_eq_true (by omega)
    clear HAC HB1 HTP HS
    obtain ⟨b, off, rfl, hb, hc⟩ := HA.out.at (by omega)
    have a0 : wr.cell? ⟨b, off + k * 6, none⟩ = some (.string (ls.getD k al0).lab) := (BB.out.cell hb).trans (hc k (by omega) 0 (by omega))
    have a1 : wr.cell? ⟨b, off + k * 6 + 1, none⟩ = some (.int .u8 ((ls.getD k al0).i.op : Int)) := (BB.out.cell hb).trans (hc k (by omega) 1 (by omega))
    have a2 : wr.cell? ⟨b, off + k * 6 + 2, none⟩ = some (.int .u8 ((ls.getD k al0).i.a : Int)) := (BB.out.cell hb).trans (hc k (by omega) 2 (by omega))
    have a3 : wr.cell? ⟨b, off + k * 6 + 3, none⟩ = some (.int .u16 ((ls.getD k al0).i.b : Int)) := (BB.out.cell hb).trans (hc k (by omega) 3 (by omega))
    have a4 : wr.cell? ⟨b, off + k * 6 + 4, none⟩ = some (.int .u32 ((ls.getD k al0).i.c : Int)) := (BB.out.cell hb).trans (hc k (by omega) 4 (by omega))
    have a5 : wr.cell? ⟨b, off + k * 6 + 5, none⟩ = some (.string (ls.getD k al0).tgt) := (BB.out.cell hb).trans (hc k (by omega) 5 (by omega))
    have HO := Lib.hid (HOKS.out k (by omega))
    have HMY : Hid ((ls.getD k al0).may = false → textS ls = ⟨#[]⟩) := fun h => HTB.out k (by omega) (by unfold mayL; rw [h]; rfl)
    have HMN : Hid ((ls.getD k al0).may = true → ∀ j, j < k + 1 → (ls.getD j al0).may = true) := fun h j hj => by
      rcases Nat.lt_or_ge j k with h1 | h1
      · exact HALL.out j h1
      · rw [show j = k by omega]; exact h
    clear hc HTB HALL
    generalize (ls.getD k al0) = x at *
    have HM1 := Lib.hid (fun W => alm_any x W HO.out)
    unfold AL.val AL.cells at HM1
    generalize x.may = my at *
    obtain ⟨lab, ⟨op, xa, xb, xc⟩, tgt⟩ := x
    simp only at a0 a1 a2 a3 a4 a5 HM1
    have GX : Hid ((wr.alloc (.cells #[.string lab, .int .u8 (op : Int), .int .u8 (xa : Int), .int .u16 (xb : Int), .int .u32 (xc : Int), .string tgt] 34)).heap[wr.heap.size]? = some (.cells #[.string lab, .int .u8 (op : Int), .int .u8 (xa : Int), .int .u16 (xb : Int), .int .u32 (xc : Int), .string tgt] 34 (0, 0))) := heap_alloc_new _ _
    have BX : Hid (Below w2.heap.size w2 (wr.alloc (.cells #[.string lab, .int .u8 (op : Int), .int .u8 (xa : Int), .int .u16 (xb : Int), .int .u32 (xc : Int), .string tgt] 34))) := HB.out.alloc HB.out.size _
    have hnum : wr.heap.size = wr.heap.size := rfl
    go_upto_region 8 with fail
    generalize wr.alloc (.cells #[.string lab, .int .u8 (op : Int), .int .u8 (xa : Int), .int .u16 (xb : Int), .int .u32 (xc : Int), .string tgt] 34) = w5 at *
    generalize wr.heap.size = g at *
    clear a0 a1 a2 a3 a4 a5 HB BB
    have y0 := cell_row (j := 0) GX.out rfl
    have y1 := cell_row (j := 1) GX.out rfl
    have y2 := cell_row (j := 2) GX.out rfl
    have y3 := cell_row (j := 3) GX.out rfl
    have y4 := cell_row (j := 4) GX.out rfl
    have y5 := cell_row (j := 5) GX.out rfl
    go_wp2_with fail
    refine (HM1.out _).mono ?_
    rintro e w6 ⟨rfl, hb6⟩
    have B6 : Hid (Below w2.heap.size w2 w6) := BX.out.trans (hb6.mono BX.out.size)
    clear hb6 BX GX y0 y1 y2 y3 y4 y5
    cases my with
    | false =>
      have BZ : Hid (Below w.heap.size w w6) := B2.out.trans (B6.out.mono B2.out.size)
      go_wp2_with fail
      refine (HT.out (by omega) w6 (HA.out.below BZ.out) (HL.out.below BZ.out).tab).mono ?_
      rintro e w7 ⟨rfl, hb7⟩
      have B7 : Hid (Below w.heap.size w w7) := BZ.out.trans (hb7.mono BZ.out.size)
      clear hb7 BZ
      rw [HMY.out trivial]
      go_wp2_with fail
      go_ret
      exact ⟨rfl, B7.out⟩
    | true =>
      have HM3 := Lib.hid (HMN.out rfl)
      clear HMN
      go_wp2_with fail
      refine ⟨⟨k + 1, by omega, by go_num, HM3, B6⟩, ?_⟩
      simp [intOf]; omega
theorem back_walk (a : Option Addr) (len cap : Nat) (s : ByteArray) (w : World) (w0 : ReadsC w 22 [.slice a len cap]) (h0 : s.size ≤ maxLen) (hL : LibW w) :
    Calls Tryz.prog 6 #[.slice a len cap, .string s] w fun e w' => e = .returned (.bool true) ∧ Below w.heap.size w w' := by
  obtain ⟨h1, h2, ls, rfl, hA, hok⟩ := reads_als w0
  exact back_any ls s a cap w hA hok (by unfold maxLen at h2; omega) (by unfold maxLen at h0; omega) hL
end Go.Proofs.YtalmgjeiopjhlaaGreatDoor
