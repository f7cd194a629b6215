/- The document's Line and Text. -/
import Derived.Test.YtalmgjeiopjhlaaGreatDoorAsmG
import Derived.Test.YtalmgjeiopjhlaaGreatDoorIsaRefC
import Derived.Deep.RegionHeld3
namespace Go.Proofs.YtalmgjeiopjhlaaGreatDoor
open Go.Shelf Go.RowKit
set_option linter.unusedVariables false
set_option linter.unusedSimpArgs false
theorem tail_4 (a b c : Nat) : tailL 4 a b c = 32 :: Lib.decDigits c := rfl
theorem jump_text {i : Ins} (hm : i.may = true) (hj : jumpB i.op = true) (hc : i.c = 0) : i.text.data.toList = (rowAt i.op).name ++ [32] ++ [48] := by
  rw [text_list hm, hc]
  have h4 : (rowAt i.op).nm = 4 := by
    unfold jumpB at hj
    rw [Bool.or_eq_true, beq_iff_eq, beq_iff_eq] at hj
    rcases hj with h | h <;> rw [h] <;> rfl
  rw [h4, tail_4, List.append_assoc, Lib.decDigits_one (show 0 < 10 by omega)]
  rfl
theorem trim_one (l : List UInt8) : Lib.trimSuffix (l ++ [48]) [48] = l := by
  unfold Lib.trimSuffix Lib.hasSuffix
  have : [48].isSuffixOf (l ++ [48]) = true := by rw [List.isSuffixOf_iff_suffix]; exact List.suffix_append l [48]
  rw [if_pos this]
  simp
theorem bodP_ref {x : AL} (hm : x.may = true) : bodP x = if x.tgt.toList.isEmpty then x.i.text.data.toList else (nameS x.i.op).data.toList ++ [32] ++ x.tgt.data.toList := by
  unfold bodP
  cases ht : x.tgt.toList.isEmpty with
  | true => rfl
  | false =>
    rw [if_neg (by decide), if_neg (by decide)]
    rcases may_tgt hm with h | h
    · rw [ht] at h; cases h
    · rw [jump_text (may_ins hm) h.1.2 h.2, trim_one, data_name]
theorem bytes_ext {s : ByteArray} {l : List UInt8} (h : s.data.toList = l) : s = ⟨l.toArray⟩ := by
  subst h; simp
set_option maxRecDepth 100000 in
set_option maxHeartbeats 4000000 in
theorem rline_any (x : AL) (w : World) (h : x.ok) (hm : x.may = true) : Calls Tryz.prog 36 #[x.val] w fun e w' => e = .returned (.string ⟨(linL x).toArray⟩) ∧ Below w.heap.size w w' := by
  have sLB : x.lab.size ≤ 16 := by rw [← size_list]; exact lab_size (may_lab hm)
  have sTG : x.tgt.size ≤ 16 := by rw [← size_list]; exact tgt_size hm
  have sST : x.i.text.size ≤ 64 := text_size x.i h.i
  have sNM := nameS_size x.i.op
  have HOP : x.tgt.toList.isEmpty = false → x.i.op < 28 := fun ht => by
    rcases may_tgt hm with h | h
    · rw [ht] at h; cases h
    · have := h.1.2; unfold jumpB at this; rw [Bool.or_eq_true, beq_iff_eq, beq_iff_eq] at this; omega
  have HOPH := Lib.hid HOP; clear HOP
  have HCT := Lib.hid (fun W => rtext_any x.i W h.i)
  have HLN : linL x = labP x ++ bodP x ++ [10] := rfl
  have HLP : labP x = if x.lab.toList.isEmpty then [] else x.lab.data.toList ++ [58, 32] := rfl
  have HBP := bodP_ref hm
  unfold AL.val AL.cells
  unfold Ins.val at HCT
  have HNN := Lib.hid (names_at x.i.op)
  generalize x.i.text = st at *
  generalize labP x = lp at *
  generalize bodP x = bp at *
  generalize linL x = lx at *
  generalize hnm : nameS x.i.op = nm at *
  clear hm h
  obtain ⟨lab, ⟨op, ia, ib, ic⟩, tgt⟩ := x
  simp only at sLB sTG HCT HLP HBP HOPH HNN
  have G0 : Hid ((w.alloc (.cells #[.string lab, .int .u8 (op : Int), .int .u8 (ia : Int), .int .u16 (ib : Int), .int .u32 (ic : Int), .string tgt] 34)).heap[w.heap.size]? = some (.cells #[.string lab, .int .u8 (op : Int), .int .u8 (ia : Int), .int .u16 (ib : Int), .int .u32 (ic : Int), .string tgt] 34 (0, 0))) := heap_alloc_new _ _
  have B0 : Hid (Below w.heap.size w (w.alloc (.cells #[.string lab, .int .u8 (op : Int), .int .u8 (ia : Int), .int .u16 (ib : Int), .int .u32 (ic : Int), .string tgt] 34))) := alloc_below _ _
  go_enter Tryz.func36, Tryz.ntmps36
  go_upto_region 1 with fail
  generalize w.alloc (.cells #[.string lab, .int .u8 (op : Int), .int .u8 (ia : Int), .int .u16 (ib : Int), .int .u32 (ic : Int), .string tgt] 34) = w1 at *
  generalize hg : w.heap.size = g at *
  have c0 := cell_row (j := 0) G0.out rfl
  have c1 := cell_row (j := 1) G0.out rfl
  have c2 := cell_row (j := 2) G0.out rfl
  have c3 := cell_row (j := 3) G0.out rfl
  have c4 := cell_row (j := 4) G0.out rfl
  have c5 := cell_row (j := 5) G0.out rfl
  cases hle : lab.toList.isEmpty with
  | true =>
    rw [hle, if_pos rfl] at HLP
    cases hte : tgt.toList.isEmpty with
    | true =>
      rw [hte, if_pos rfl] at HBP
      go_wp2_with fail
      refine (HCT.out w1).mono ?_
      rintro e w2 ⟨rfl, hb⟩
      have B2 : Hid (Below g w w2) := B0.out.trans (hb.mono (by have := heap_lt G0.out; omega))
      clear hb
      go_wp2_with fail
      go_ret
      refine ⟨?_, by rw [hg]; exact B2.out⟩
      show Ending.returned (.string _) = _
      congr 2
      refine bytes_ext ?_
      rw [HLN, HBP, HLP]
      simp [data_app]
    | false =>
      rw [hte, if_neg (by decide)] at HBP
      have hop := HOPH.out hte
      have hnn := HNN.out hop
      have HSS : Hid (∀ V, Below w1.heap.size w1 V → (V.cell? ⟨g, 0, none⟩ = some (.string lab) ∧ V.cell? ⟨g, 1, none⟩ = some (.int .u8 (op : Int)) ∧ V.cell? ⟨g, 5, none⟩ = some (.string tgt))) := fun V hV => ⟨(hV.cell (heap_lt G0.out)).trans c0, (hV.cell (heap_lt G0.out)).trans c1, (hV.cell (heap_lt G0.out)).trans c5⟩
      have HNC : Hid (∀ V, Below w1.heap.size w1 V → Calls Tryz.prog 55 #[] V fun e w' => (∃ gn, e = .returned (.slice (some ⟨gn, 0, none⟩) 28 28) ∧ w'.cell? ⟨gn, op, none⟩ = some (.string nm)) ∧ Below w1.heap.size w1 w') := fun V hV => (names_any V).mono fun e w' h => by
        obtain ⟨⟨gn, h1, h2⟩, h3⟩ := h
        exact ⟨⟨gn, h1, cell_row h2 hnn⟩, hV.trans (h3.mono hV.size)⟩
      have HFIN : Hid (∀ V, Below w1.heap.size w1 V → Below g w V) := fun V hV => B0.out.trans (hV.mono (by have := heap_lt G0.out; omega))
      have ZB : Hid (Below w1.heap.size w1 w1.drew) := ⟨rfl, rfl, rfl, Nat.le_refl _, fun _ _ => rfl⟩
      have XB : Hid (Below w1.heap.size w1 w1) := Below.refl _ _
      have i1 : decide ((op : Int) < 28) = true := decide_eq_true (by omega)
      clear hnn HNN HCT
      go_upto_region 5 with fail
      go_region_with (first
          | (go_at_call 55; (first | (with_reducible refine (HNC.out _ ZB.out).mono ?_) | (with_reducible refine (HNC.out _ XB.out).mono ?_)); rintro e we ⟨⟨gn, rfl, hnc⟩, hbe⟩; have YB := Lib.hid hbe; obtain ⟨y0, y1, y5⟩ := HSS.out _ hbe; clear hbe))
      all_goals (go_wp2_with fail)
      all_goals go_ret
      all_goals refine ⟨?_, by rw [hg]; exact HFIN.out _ YB.out⟩
      all_goals (show Ending.returned (.string _) = _; congr 2; refine bytes_ext ?_; rw [HLN, HBP, HLP]; simp [data_app])
  | false =>
    rw [hle, if_neg (by decide)] at HLP
    cases hte : tgt.toList.isEmpty with
    | true =>
      rw [hte, if_pos rfl] at HBP
      go_wp2_with fail
      refine (HCT.out w1).mono ?_
      rintro e w2 ⟨rfl, hb⟩
      have B2 : Hid (Below g w w2) := B0.out.trans (hb.mono (by have := heap_lt G0.out; omega))
      clear hb
      go_wp2_with fail
      go_ret
      refine ⟨?_, by rw [hg]; exact B2.out⟩
      show Ending.returned (.string _) = _
      congr 2
      refine bytes_ext ?_
      rw [HLN, HBP, HLP]
      simp [data_app]
    | false =>
      rw [hte, if_neg (by decide)] at HBP
      have hop := HOPH.out hte
      have hnn := HNN.out hop
      have HSS : Hid (∀ V, Below w1.heap.size w1 V → (V.cell? ⟨g, 0, none⟩ = some (.string lab) ∧ V.cell? ⟨g, 1, none⟩ = some (.int .u8 (op : Int)) ∧ V.cell? ⟨g, 5, none⟩ = some (.string tgt))) := fun V hV => ⟨(hV.cell (heap_lt G0.out)).trans c0, (hV.cell (heap_lt G0.out)).trans c1, (hV.cell (heap_lt G0.out)).trans c5⟩
      have HNC : Hid (∀ V, Below w1.heap.size w1 V → Calls Tryz.prog 55 #[] V fun e w' => (∃ gn, e = .returned (.slice (some ⟨gn, 0, none⟩) 28 28) ∧ w'.cell? ⟨gn, op, none⟩ = some (.string nm)) ∧ Below w1.heap.size w1 w') := fun V hV => (names_any V).mono fun e w' h => by
        obtain ⟨⟨gn, h1, h2⟩, h3⟩ := h
        exact ⟨⟨gn, h1, cell_row h2 hnn⟩, hV.trans (h3.mono hV.size)⟩
      have HFIN : Hid (∀ V, Below w1.heap.size w1 V → Below g w V) := fun V hV => B0.out.trans (hV.mono (by have := heap_lt G0.out; omega))
      have ZB : Hid (Below w1.heap.size w1 w1.drew) := ⟨rfl, rfl, rfl, Nat.le_refl _, fun _ _ => rfl⟩
      have XB : Hid (Below w1.heap.size w1 w1) := Below.refl _ _
      have i1 : decide ((op : Int) < 28) = true := decide_eq_true (by omega)
      clear hnn HNN HCT
      go_upto_region 5 with fail
      go_region_with (first
          | (go_at_call 55; (first | (with_reducible refine (HNC.out _ ZB.out).mono ?_) | (with_reducible refine (HNC.out _ XB.out).mono ?_)); rintro e we ⟨⟨gn, rfl, hnc⟩, hbe⟩; have YB := Lib.hid hbe; obtain ⟨y0, y1, y5⟩ := HSS.out _ hbe; clear hbe))
      all_goals (go_wp2_with fail)
      all_goals go_ret
      all_goals refine ⟨?_, by rw [hg]; exact HFIN.out _ YB.out⟩
      all_goals (show Ending.returned (.string _) = _; congr 2; refine bytes_ext ?_; rw [HLN, HBP, HLP]; simp [data_app])
end Go.Proofs.YtalmgjeiopjhlaaGreatDoor
/- The document's Text. -/
namespace Go.Proofs.YtalmgjeiopjhlaaGreatDoor
open Go.Shelf Go.RowKit
set_option linter.unusedVariables false
set_option linter.unusedSimpArgs false
set_option maxRecDepth 100000 in
set_option maxHeartbeats 2000000 in
theorem rtext_all (ls : List AL) (a : Option Addr) (c : Nat) (w : World) (hA : AlsAt w a ls) (hok : ∀ i, i < ls.length → (ls.getD i al0).ok) (hm : ls.length ≤ 1000000) :
    Calls Tryz.prog 16 #[.slice a ls.length c] w fun e w' => e = .returned (.string (textS ls)) ∧ Below w.heap.size w w' := by
  have HA := Lib.hid hA; have HOKS := Lib.hid hok
  have HLEN : Hid (∀ k, k ≤ ls.length → (∀ j, j < k → mayL ls j = false) → (textK ls k).length ≤ 99 * k) := fun k => textK_len hok k
  have HRA : Hid (∀ i, first (mayL ls) ls.length = some i → textS ls = ⟨#[]⟩) := fun i h => by unfold textS; rw [h]; rfl
  have HRC : Hid (first (mayL ls) ls.length = none → textS ls = ⟨(textK ls ls.length).toArray⟩) := fun h => by unfold textS; rw [h]; rfl
  clear hA hok
  generalize hn : ls.length = n at *
  go_enter Tryz.func16, Tryz.ntmps16
  go_wp2_with fail
  go_loopw [3, 4] (fun v i wr => ∃ k s, v = .string s ∧ k ≤ n ∧ i = .int .i64 ((k : Nat) : Int) ∧ Hid (s.data.toList = textK ls k) ∧ Hid (∀ j, j < k → mayL ls j = false) ∧ Hid (Below w.heap.size w wr)) (fun _ i _ => n - (intOf i).toNat)
  case atStart => exact ⟨0, _, rfl, Nat.zero_le _, rfl, rfl, fun j hj => absurd hj (by omega), Below.refl _ _⟩
  case round =>
    obtain ⟨k, s, rfl, hk, rfl, HD, HS, BB⟩ := hrel
    rcases Nat.lt_or_ge k n with hk2 | hk2
    case inr =>
      obtain rfl : k = n := by omega
      have t2 : decide ((k : Int) < (k : Int)) = false := by simp
      have HF := Lib.hid (HRC.out (first_none HS.out))
      go_wp2_with fail
      go_ret
      exact ⟨by rw [HF.out, ← bytes_ext HD.out]; rfl, BB.out⟩
    have t2 : decide ((k : Int) < (n : Int)) = true := decide_eq_true (by omega)
    obtain ⟨b, off, rfl, hb, hc⟩ := HA.out.at (by omega)
    have a0 : wr.cell? ⟨b, off + k * 6, none⟩ = some (.string (ls.getD k al0).lab) := (BB.out.cell hb).trans (hc k (by omega) 0 (by omega))
    have a1 : wr.cell? ⟨b, off + k * 6 + 1, none⟩ = some (.int .u8 ((ls.getD k al0).i.op : Int)) := (BB.out.cell hb).trans (hc k (by omega) 1 (by omega))
    have a2 : wr.cell? ⟨b, off + k * 6 + 2, none⟩ = some (.int .u8 ((ls.getD k al0).i.a : Int)) := (BB.out.cell hb).trans (hc k (by omega) 2 (by omega))
    have a3 : wr.cell? ⟨b, off + k * 6 + 3, none⟩ = some (.int .u16 ((ls.getD k al0).i.b : Int)) := (BB.out.cell hb).trans (hc k (by omega) 3 (by omega))
    have a4 : wr.cell? ⟨b, off + k * 6 + 4, none⟩ = some (.int .u32 ((ls.getD k al0).i.c : Int)) := (BB.out.cell hb).trans (hc k (by omega) 4 (by omega))
    have a5 : wr.cell? ⟨b, off + k * 6 + 5, none⟩ = some (.string (ls.getD k al0).tgt) := (BB.out.cell hb).trans (hc k (by omega) 5 (by omega))
    have HO := Lib.hid (HOKS.out k hk2)
    have HMA : Hid (mayL ls k = !(ls.getD k al0).may) := rfl
    have HTK := Lib.hid (textK_succ ls k)
    have sS : s.size ≤ 99 * k := by rw [← size_list, HD.out]; exact HLEN.out k (by omega) HS.out
    have HLX := Lib.hid (fun h => (lin_len (x := ls.getD k al0) h HO.out).2.2)
    have HC := fun W => ralm_any (ls.getD k al0) W HO.out
    have HL := fun W h => rline_any (ls.getD k al0) W HO.out h
    have HCL : Hid (∀ W, Below w.heap.size w W → W.cell? ⟨b, off + k * 6, none⟩ = some (.string (ls.getD k al0).lab) ∧ W.cell? ⟨b, off + k * 6 + 1, none⟩ = some (.int .u8 ((ls.getD k al0).i.op : Int)) ∧ W.cell? ⟨b, off + k * 6 + 2, none⟩ = some (.int .u8 ((ls.getD k al0).i.a : Int)) ∧ W.cell? ⟨b, off + k * 6 + 3, none⟩ = some (.int .u16 ((ls.getD k al0).i.b : Int)) ∧ W.cell? ⟨b, off + k * 6 + 4, none⟩ = some (.int .u32 ((ls.getD k al0).i.c : Int)) ∧ W.cell? ⟨b, off + k * 6 + 5, none⟩ = some (.string (ls.getD k al0).tgt)) := fun W hW => ⟨(hW.cell hb).trans (hc k (by omega) 0 (by omega)), (hW.cell hb).trans (hc k (by omega) 1 (by omega)), (hW.cell hb).trans (hc k (by omega) 2 (by omega)), (hW.cell hb).trans (hc k (by omega) 3 (by omega)), (hW.cell hb).trans (hc k (by omega) 4 (by omega)), (hW.cell hb).trans (hc k (by omega) 5 (by omega))⟩
    clear hc
    generalize (ls.getD k al0) = x at *
    unfold AL.val AL.cells at HC HL
    have HC := Lib.hid HC; have HL := Lib.hid HL
    generalize hlx : linL x = lx at *
    generalize x.may = my at *
    obtain ⟨lab, ⟨op, ia, ib, ic⟩, tgt⟩ := x
    simp only at a0 a1 a2 a3 a4 a5 HC HL HCL
    go_wp2_with fail
    refine (HC.out _).mono ?_
    rintro e w2 ⟨rfl, hb2⟩
    have B2 : Hid (Below w.heap.size w w2) := BB.out.trans (hb2.mono BB.out.size)
    clear hb2 a0 a1 a2 a3 a4 a5 BB HC
    cases my with
    | false =>
      have HF := Lib.hid (HRA.out k (first_some hk2 HMA.out HS.out))
      go_wp2_with fail
      go_ret
      exact ⟨by rw [HF.out]; rfl, B2.out⟩
    | true =>
    have HS' : Hid (∀ j, j < k + 1 → mayL ls j = false) := fun j hj => by rcases Nat.lt_succ_iff_lt_or_eq.1 hj with h | rfl <;> first | exact HS.out _ h | exact HMA.out
    obtain ⟨a0, a1, a2, a3, a4, a5⟩ := HCL.out w2 B2.out
    have hL := Lib.hid (fun W => HL.out W rfl)
    have lxl := HLX.out rfl
    have sX : (⟨lx.toArray⟩ : ByteArray).size ≤ 99 := by show lx.toArray.size ≤ 99; simpa using lxl
    have dX : (⟨lx.toArray⟩ : ByteArray).data.toList = lx := by simp
    generalize (⟨lx.toArray⟩ : ByteArray) = xs at *
    go_wp2_with fail
    refine (hL.out _).mono ?_
    rintro e w3 ⟨rfl, hb3⟩
    have B3 : Hid (Below w.heap.size w w3) := B2.out.trans (hb3.mono B2.out.size)
    clear hb3 B2 HL hL HMA HS HCL HLX
    go_wp2_with fail
    have HD' : Hid ((s ++ xs).data.toList = textK ls (k + 1)) := by show _ = _; rw [data_app, HD.out, dX, HTK.out]
    generalize s ++ xs = s2 at *
    refine ⟨⟨k + 1, s2, rfl, by omega, by go_num, HD', HS', B3⟩, ?_⟩
    simp [intOf]; omega
end Go.Proofs.YtalmgjeiopjhlaaGreatDoor
