/- A line of a route. -/
import Derived.Test.YtpodedhnlicckaaGreatDoorTbLx
namespace Go.Proofs.YtpodedhnlicckaaGreatDoor
open Go.Shelf Go.RowKit Go.Sort
set_option linter.unusedVariables false
set_option linter.unusedSimpArgs false
def BoxS (tb bx : Nat) (v c0 c1 c2 c3 c4 c5 : Value) (V : World) : Prop := V.cell? ⟨tb, 3, none⟩ = some v ∧ V.cell? ⟨bx, 0, none⟩ = some c0 ∧ V.cell? ⟨bx, 1, none⟩ = some c1 ∧ V.cell? ⟨bx, 2, none⟩ = some c2 ∧ V.cell? ⟨bx, 3, none⟩ = some c3 ∧ V.cell? ⟨bx, 4, none⟩ = some c4 ∧ V.cell? ⟨bx, 5, none⟩ = some c5
theorem infoRt : (Tryz.prog.info? 30).map (fun i => (i.zero, i.size, i.bytes)) = some (some (.agg #[.int .i64 0, .slice none 0 0, .slice none 0 0, .int .i64 0, .slice none 0 0, .int .u16 0]), 6, 96) := by kernel_rfl
def IsRouteLine (T : Tab) (l : List UInt8) : Prop := ¬ ((partL 32 l).head? = some wPt ∧ T.rts = [])
theorem step_route {T : Tab} {n : Nat} {l : List UInt8} (hn : 2 ≤ n) (h : IsRouteLine T l) : stepT T n l = (rtT (partL 32 l)).map fun r => { T with rts := T.rts ++ [r] } := by
  unfold stepT
  rw [if_neg (by omega), if_neg (by omega), if_neg h]
theorem apC_hit (sg : Int) (tr : List Int) (ps : List (Int × Bool)) {q : ByteArray} {r : List ByteArray} {b : Bool} (h : q = bAp) : apC sg tr ps (q :: r) b = apC1 sg tr ps (wordS (q :: r) b (bytesOf wAp)) := by
  unfold apC
  rw [if_pos (show headIs (q :: r) bAp = true from decide_eq_true h)]; rfl
theorem apC_miss (sg : Int) (tr : List Int) (ps : List (Int × Bool)) {q : ByteArray} {r : List ByteArray} {b : Bool} (h : ¬ q = bAp) : apC sg tr ps (q :: r) b = endC1 sg tr ps (-1) (wordS (q :: r) b (bytesOf wHo)) := by
  unfold apC
  rw [if_neg (show ¬ headIs (q :: r) bAp = true from fun e => h (of_decide_eq_true e))]; rfl
theorem LS.drew {sb rb bx : Nat} {all us : List ByteArray} {bd : Bool} {cs : Array Value} {w W : World} (h : LS sb rb bx all us bd cs w W) : LS sb rb bx all us bd cs w W.drew :=
  ⟨h.rd.kept (Below.drew (Below.refl _ W)), h.bel.drew, h.box, h.o1, h.o2, h.wz⟩
theorem own_drew {W : World} {L e sz n : Nat} {v : Value} {xs : List Value} (h : W.ownsRow L e sz v n xs) : W.drew.ownsRow L e sz v n xs := own_old h (Below.drew (Below.refl _ W))
set_option maxHeartbeats 40000000 in
set_option maxRecDepth 100000 in
theorem lineR_any (C tb n : Nat) (T : Tab) (s : ByteArray) (w : World) (hT : TM C tb T w) (hs : s.size ≤ 8000) (hM : MaxW w) (hC : C ≤ w.heap.size) (hn : 2 ≤ n) (hn2 : n ≤ 1000000) (hp : T.rts.length ≤ 1000000) (hh : IsRouteLine T s.data.toList) :
    Calls Tryz.prog 32 #[.pointer (some ⟨tb, 0, none⟩), .int .i64 (n : Int), .string s] w (LineP C tb T n s.data.toList w) := by
  have HT := Lib.hid hT; have HC0 := Lib.hid hC; have HH := Lib.hid hh
  obtain ⟨i0, hi, hz0, hz1, hz2⟩ := tb_info2 infoRt
  have HIn := Lib.hid hi; have HZ0 := Lib.hid hz0; have HZ1 := Lib.hid hz1; have HZ2 := Lib.hid hz2
  clear hi hz0 hz1 hz2
  have HC := HC0
  have HSP := Lib.hid (split_any s w (by omega) hM)
  have HTZ : Hid (tb < w.heap.size) := by obtain ⟨_, _, _, h, _⟩ := hT.at_; exact heap_lt h
  have HWN := Lib.hid (words_ne s)
  have HWD := Lib.hid (words_dat s)
  have HSZ : Hid (∀ w1 : World, w1 = w.alloc (.cells ((wordsB s).map Value.string).toArray 9) → RdAt w1.heap.size w.heap.size (wordsB s) (wordsB s) false (w1.alloc (.cells #[.slice (some ⟨w.heap.size, 0, none⟩) (wordsB s).length (wordsB s).length, .bool false] 96)) ∧ Below w.heap.size w (w1.alloc (.cells #[.slice (some ⟨w.heap.size, 0, none⟩) (wordsB s).length (wordsB s).length, .bool false] 96)) ∧ w1.heap.size = w.heap.size + 1) := fun w1 h => rd_first s w w1 hs h
  generalize wordsB s = all at *
  clear hT hC hh HC0
  have tn0 : ((n : Int) == 0) = false := beq_eq_false_iff_ne.2 (by omega)
  have tn1 : ((n : Int) == 1) = false := beq_eq_false_iff_ne.2 (by omega)
  go_enter Tryz.func32, Tryz.ntmps32
  go_wp2_with fail
  refine HSP.out.mono ?_
  rintro e w1 ⟨rfl, hw1⟩
  obtain ⟨hr2, hb2, hz1⟩ := HSZ.out w1 hw1
  have HR2 := Lib.hid hr2; have HB2 := Lib.hid hb2; have HZ1 := Lib.hid hz1
  clear hr2 hb2 hz1 hw1 HSP HSZ
  go_upto_region 23 with fail
  generalize w1.alloc (.cells #[.slice (some ⟨w.heap.size, 0, none⟩) all.length all.length, .bool false] 96) = w2 at *
  obtain ⟨rb, hrb⟩ : ∃ rb, rb = w1.heap.size := ⟨_, rfl⟩
  obtain ⟨sb, hsb⟩ : ∃ sb, sb = w.heap.size := ⟨_, rfl⟩
  rw [← hrb] at HR2 HZ1 ⊢
  rw [← hsb] at HR2 HZ1 HTZ HC HB2
  have HRB : Hid (sb < rb) := by have := HZ1.out; show _ < _; omega
  clear hrb HZ1
  have HSB := Lib.hid hsb
  clear hsb
  have HC0 := HC
  clear HC
  have HT2 : Hid (TM C tb T w2) := HT.out.old (by rw [← HSB.out]; exact HB2.out)
  obtain ⟨vp, vr, zs, h1, h2, h3, h4, h5⟩ := HT2.out.at_
  obtain ⟨ra, rc, rfl⟩ := own_sl h3
  have hzl : T.rts.length = zs.length := by rw [h4, List.length_map]
  have cz : w2.cell? ⟨tb, 3, none⟩ = some (.slice ra zs.length rc) := cell_row h1 rfl
  have HZL := Lib.hid hzl
  have hzm : zs.length ≤ 1000000 := by omega
  clear h1 h2 h3 h4 h5 hzl HT2
  obtain ⟨q, r, hqr⟩ : ∃ q r, all = q :: r := by
    cases all with
    | nil => exact absurd rfl HWN.out
    | cons q r => exact ⟨q, r, rfl⟩
  have HHD : Hid ((partL 32 s.data.toList).head? = some q.data.toList) := by show _ = _; rw [← HWD.out, hqr]; rfl
  obtain ⟨o, hb1, x0, hsl, h3'⟩ := (by have := HR2.out; rw [hqr] at this; exact this.head)
  have hl : r.length + 1 ≤ 1000000 := by have := HR2.out.left; rw [hqr] at this; simpa using this
  have d0 : w2.cell? ⟨rb, 0, none⟩ = some (.slice (some ⟨sb, o, none⟩) (r.length + 1) (r.length + 1)) := cell_row hb1 rfl
  have HGV : Hid (Gives (rtT (partL 32 s.data.toList)) (rtC all false)) := by show Gives _ _; rw [← HWD.out]; exact rtC_law all
  have HC : Hid (rtC all false = rtC1 (wordS all false bRo)) := by show _ = _; rfl
  generalize rtC all false = RC at *
  have HQR : Hid (all = q :: r) := hqr
  clear hb1 h3' hqr
  by_cases hq : q = { data := #[112, 111, 105, 110, 116] }
  · subst hq
    have hz0 : zs.length ≠ 0 := fun e => HH.out ⟨by rw [HHD.out]; rfl, List.eq_nil_of_length_eq_zero (by rw [HZL.out, e])⟩
    have tz : ((zs.length : Int) == 0) = false := beq_eq_false_iff_ne.2 (by omega)
    clear hz0 HHD
    go_upto_region 3 with fail
    have HL : Hid (LS sb rb w2.heap.size all all false #[.int .i64 0, .slice none 0 0, .slice none 0 0, .int .i64 (-1), .slice none 0 0, .int .u16 0] w (w2.alloc (.cells #[.int .i64 0, .slice none 0 0, .slice none 0 0, .int .i64 (-1), .slice none 0 0, .int .u16 0] 30))) :=
      ⟨HR2.out.kept (tb_alloc_below _ _), HB2.out.trans ((tb_alloc_below _ _).mono (by have := HB2.out.size; have := HSB.out; omega)), heap_alloc_new _ _, HRB.out, HR2.out.lt, by have := HSB.out; omega⟩
    obtain ⟨bx, hbx⟩ : ∃ b, b = w2.heap.size := ⟨_, rfl⟩
    rw [← hbx] at HL ⊢
    clear hbx
    generalize w2.alloc (.cells #[.int .i64 0, .slice none 0 0, .slice none 0 0, .int .i64 (-1), .slice none 0 0, .int .u16 0] 30) = w3 at *
    have HRL : Hid (rb < bx + 1) := by have := HL.out.o2; show _ < _; omega
    have HBL : Hid (bx < bx + 1) := Nat.lt_succ_self _
    clear cz d0 x0 hsl HR2 HB2
    obtain ⟨us, hus⟩ : ∃ us, us = all := ⟨_, rfl⟩
    obtain ⟨bd, hbd⟩ : ∃ bd, bd = false := ⟨_, rfl⟩
    have HL : Hid (LS sb rb bx all us bd #[.int .i64 0, .slice none 0 0, .slice none 0 0, .int .i64 (-1), .slice none 0 0, .int .u16 0] w w3) := by rw [hus, hbd]; exact HL
    have HC : Hid (RC = rtC1 (wordS us bd (bytesOf wRo))) := by rw [hus, hbd]; exact HC
    clear hus hbd
    go_wp2_with fail
    refine (HL.out.word (bytesOf wRo)).mono ?_
    rintro e w9 ⟨rfl, hl, ho⟩
    replace HL := Lib.hid hl
    skip
    clear hl ho
    generalize wordS us bd (bytesOf wRo) = x0 at *
    obtain ⟨us', bd'⟩ := x0
    replace HC : Hid (RC = rtC2 (numS2 us' bd')) := HC.out
    clear us bd
    obtain ⟨us, rfl⟩ : ∃ x, x = us' := ⟨_, rfl⟩
    obtain ⟨bd, rfl⟩ : ∃ x, x = bd' := ⟨_, rfl⟩
    obtain ⟨w3, rfl⟩ : ∃ x, x = w9 := ⟨_, rfl⟩
    go_wp2_with fail
    refine (HL.out.num).mono ?_
    rintro e w9 ⟨rfl, hl, ho⟩
    replace HL := Lib.hid hl
    skip
    clear hl ho
    have hlt_sg := numS2_lt us bd
    generalize numS2 us bd = x0 at *
    obtain ⟨sg, us', bd'⟩ := x0
    replace HC : Hid (RC = trC1 (sg : Int) (wordS us' bd' (bytesOf wTr))) := HC.out
    have hlt_sg : sg < 100000 := hlt_sg
    clear us bd
    obtain ⟨us, rfl⟩ : ∃ x, x = us' := ⟨_, rfl⟩
    obtain ⟨bd, rfl⟩ : ∃ x, x = bd' := ⟨_, rfl⟩
    have cc := cell_row (j := 0) HL.out.box rfl
    have ff : w9.frozen? ⟨bx, 0, none⟩ = false := frozen_of_row _ _ _ _ _ HL.out.box
    replace HL : Hid (LS sb rb bx all us bd #[.int .i64 (sg : Int), .slice none 0 0, .slice none 0 0, .int .i64 (-1), .slice none 0 0, .int .u16 0] w (w9.setCell ⟨bx, 0, none⟩ (.int .i64 (sg : Int)))) := HL.out.set 0 (.int .i64 (sg : Int))
    skip
    go_upto_region 5 with fail
    clear cc ff
    generalize w9.setCell ⟨bx, 0, none⟩ (.int .i64 (sg : Int)) = w3 at *
    go_wp2_with fail
    refine (HL.out.word (bytesOf wTr)).mono ?_
    rintro e w9 ⟨rfl, hl, ho⟩
    replace HL := Lib.hid hl
    skip
    clear hl ho
    generalize wordS us bd (bytesOf wTr) = x0 at *
    obtain ⟨us', bd'⟩ := x0
    replace HC : Hid (RC = trC2 (sg : Int) (allS [(bytesOf wPs)] digF us' bd')) := HC.out
    clear us bd
    obtain ⟨us, rfl⟩ : ∃ x, x = us' := ⟨_, rfl⟩
    obtain ⟨bd, rfl⟩ : ∃ x, x = bd' := ⟨_, rfl⟩
    obtain ⟨w3, rfl⟩ : ∃ x, x = w9 := ⟨_, rfl⟩
    go_wp2_with fail
    refine (HL.out.allI (bytesOf wPs)).mono ?_
    rintro e w9 ⟨⟨v1, rfl, ho1⟩, hl, ho⟩
    obtain ⟨a1, c1, rfl⟩ := own_sl ho1
    have O1 : Hid (w9.ownsRow (bx + 1) 3 1 (.slice a1 (allS [bytesOf wPs] digF us bd).1.length c1) (allS [bytesOf wPs] digF us bd).1.length (intsV (allS [bytesOf wPs] digF us bd).1)) := own_base ho1 (heap_lt HL.out.box)
    have K1 : Hid (∀ x ∈ (allS [bytesOf wPs] digF us bd).1, i64ok x) := digF_ok _ _ _
    replace HL := Lib.hid hl
    clear hl ho ho1
    generalize allS [bytesOf wPs] digF us bd = x0 at *
    obtain ⟨tr, us', bd'⟩ := x0
    replace HC : Hid (RC = ptC1 (sg : Int) tr (wordS us' bd' (bytesOf wPs))) := HC.out
    clear us bd
    obtain ⟨us, rfl⟩ : ∃ x, x = us' := ⟨_, rfl⟩
    obtain ⟨bd, rfl⟩ : ∃ x, x = bd' := ⟨_, rfl⟩
    replace O1 : Hid (w9.ownsRow (bx + 1) 3 1 (.slice a1 tr.length c1) tr.length (intsV tr)) := O1.out
    replace K1 : Hid (∀ x ∈ tr, i64ok x) := K1.out
    have cc := cell_row (j := 1) HL.out.box rfl
    have ff : w9.frozen? ⟨bx, 1, none⟩ = false := frozen_of_row _ _ _ _ _ HL.out.box
    replace HL : Hid (LS sb rb bx all us bd #[.int .i64 (sg : Int), .slice a1 tr.length c1, .slice none 0 0, .int .i64 (-1), .slice none 0 0, .int .u16 0] w (w9.setCell ⟨bx, 1, none⟩ (.slice a1 tr.length c1))) := HL.out.set 1 (.slice a1 tr.length c1)
    replace O1 := Lib.hid (own_bx (i := 1) (x := .slice a1 tr.length c1) O1.out HBL.out)
    go_upto_region 7 with fail
    clear cc ff
    generalize w9.setCell ⟨bx, 1, none⟩ (.slice a1 tr.length c1) = w3 at *
    go_wp2_with fail
    refine (HL.out.word (bytesOf wPs)).mono ?_
    rintro e w9 ⟨rfl, hl, ho⟩
    replace HL := Lib.hid hl
    replace O1 := Lib.hid (own_rb O1.out ho HRL.out)
    clear hl ho
    generalize wordS us bd (bytesOf wPs) = x0 at *
    obtain ⟨us', bd'⟩ := x0
    replace HC : Hid (RC = ptC2 (sg : Int) tr (allS [bytesOf wAp, bytesOf wHo] ptF us' bd')) := HC.out
    clear us bd
    obtain ⟨us, rfl⟩ : ∃ x, x = us' := ⟨_, rfl⟩
    obtain ⟨bd, rfl⟩ : ∃ x, x = bd' := ⟨_, rfl⟩
    obtain ⟨w3, rfl⟩ : ∃ x, x = w9 := ⟨_, rfl⟩
    go_wp2_with fail
    refine (HL.out.allP (bytesOf wAp) (bytesOf wHo)).mono ?_
    rintro e w9 ⟨⟨v2, rfl, ho2⟩, hk2, hl, ho⟩
    obtain ⟨a2, c2, rfl⟩ := own_sl ho2
    have O2 : Hid (w9.ownsRow (bx + 1) 57 2 (.slice a2 (allS [bytesOf wAp, bytesOf wHo] ptF us bd).1.length c2) (allS [bytesOf wAp, bytesOf wHo] ptF us bd).1.length (ptsC (allS [bytesOf wAp, bytesOf wHo] ptF us bd).1)) := own_base ho2 (heap_lt HL.out.box)
    have K2 := Lib.hid hk2
    replace O1 := Lib.hid (own_rb O1.out ho HRL.out)
    replace HL := Lib.hid hl
    clear hl ho ho2 hk2
    generalize allS [bytesOf wAp, bytesOf wHo] ptF us bd = x0 at *
    obtain ⟨ps, us', bd'⟩ := x0
    replace HC : Hid (RC = apC (sg : Int) tr ps us' bd') := HC.out
    clear us bd
    obtain ⟨us, rfl⟩ : ∃ x, x = us' := ⟨_, rfl⟩
    obtain ⟨bd, rfl⟩ : ∃ x, x = bd' := ⟨_, rfl⟩
    replace O2 : Hid (w9.ownsRow (bx + 1) 57 2 (.slice a2 ps.length c2) ps.length (ptsC ps)) := O2.out
    replace K2 : Hid (∀ p ∈ ps, i64ok p.1) := K2.out
    have cc := cell_row (j := 2) HL.out.box rfl
    have ff : w9.frozen? ⟨bx, 2, none⟩ = false := frozen_of_row _ _ _ _ _ HL.out.box
    replace HL : Hid (LS sb rb bx all us bd #[.int .i64 (sg : Int), .slice a1 tr.length c1, .slice a2 ps.length c2, .int .i64 (-1), .slice none 0 0, .int .u16 0] w (w9.setCell ⟨bx, 2, none⟩ (.slice a2 ps.length c2))) := HL.out.set 2 (.slice a2 ps.length c2)
    replace O1 := Lib.hid (own_bx (i := 2) (x := .slice a2 ps.length c2) O1.out HBL.out)
    replace O2 := Lib.hid (own_bx (i := 2) (x := .slice a2 ps.length c2) O2.out HBL.out)
    go_upto_region 9 with fail
    clear cc ff
    generalize w9.setCell ⟨bx, 2, none⟩ (.slice a2 ps.length c2) = w3 at *
    obtain ⟨us1, hus⟩ : ∃ us1, us1 = us := ⟨_, rfl⟩
    cases us with
    | nil =>
      obtain ⟨ua, hr⟩ := HL.out.rd.nil
      have d0 : w3.cell? ⟨rb, 0, none⟩ = some (.slice ua 0 0) := cell_row hr rfl
      replace HC : Hid (RC = endC1 (sg : Int) tr ps (-1) (wordS us1 bd (bytesOf wHo))) := by rw [hus]; exact HC.out
      rw [← hus] at HL
      clear hus hr
      obtain ⟨us, rfl⟩ : ∃ x, x = us1 := ⟨_, rfl⟩
      go_upto_region 12 with fail
      clear d0
      have KAP : Hid (i64ok (-1 : Int)) := ⟨by omega, by omega⟩
      obtain ⟨ap, hap⟩ : ∃ ap : Int, ap = (-1 : Int) := ⟨_, rfl⟩
      rw [← hap] at KAP HL HC
      clear hap
      go_wp2_with fail
      refine (HL.out.word (bytesOf wHo)).mono ?_
      rintro e w9 ⟨rfl, hl, ho⟩
      replace HL := Lib.hid hl
      replace O1 := Lib.hid (own_rb O1.out ho HRL.out)
      replace O2 := Lib.hid (own_rb O2.out ho HRL.out)
      clear hl ho
      generalize wordS us bd (bytesOf wHo) = x0 at *
      obtain ⟨us', bd'⟩ := x0
      replace HC : Hid (RC = endC2 (sg : Int) tr ps ap (numS2 us' bd')) := HC.out
      clear us bd
      obtain ⟨us, rfl⟩ : ∃ x, x = us' := ⟨_, rfl⟩
      obtain ⟨bd, rfl⟩ : ∃ x, x = bd' := ⟨_, rfl⟩
      obtain ⟨w3, rfl⟩ : ∃ x, x = w9 := ⟨_, rfl⟩
      go_wp2_with fail
      refine (HL.out.num).mono ?_
      rintro e w9 ⟨rfl, hl, ho⟩
      replace HL := Lib.hid hl
      replace O1 := Lib.hid (own_rb O1.out ho HRL.out)
      replace O2 := Lib.hid (own_rb O2.out ho HRL.out)
      clear hl ho
      have hlt_hd := numS2_lt us bd
      generalize numS2 us bd = x0 at *
      obtain ⟨hd, us', bd'⟩ := x0
      replace HC : Hid (RC = endC3 (sg : Int) tr ps ap hd (wordS us' bd' (bytesOf wCo))) := HC.out
      have hlt_hd : hd < 100000 := hlt_hd
      clear us bd
      obtain ⟨us, rfl⟩ : ∃ x, x = us' := ⟨_, rfl⟩
      obtain ⟨bd, rfl⟩ : ∃ x, x = bd' := ⟨_, rfl⟩
      have cc := cell_row (j := 5) HL.out.box rfl
      have ff : w9.frozen? ⟨bx, 5, none⟩ = false := frozen_of_row _ _ _ _ _ HL.out.box
      replace HL : Hid (LS sb rb bx all us bd #[.int .i64 (sg : Int), .slice a1 tr.length c1, .slice a2 ps.length c2, .int .i64 ap, .slice none 0 0, .int .u16 (IntKind.u16.wrap (hd : Int))] w (w9.setCell ⟨bx, 5, none⟩ (.int .u16 (IntKind.u16.wrap (hd : Int))))) := HL.out.set 5 (.int .u16 (IntKind.u16.wrap (hd : Int)))
      replace O1 := Lib.hid (own_bx (i := 5) (x := .int .u16 (IntKind.u16.wrap (hd : Int))) O1.out HBL.out)
      replace O2 := Lib.hid (own_bx (i := 5) (x := .int .u16 (IntKind.u16.wrap (hd : Int))) O2.out HBL.out)
      go_upto_region 14 with fail
      clear cc ff
      generalize w9.setCell ⟨bx, 5, none⟩ (.int .u16 (IntKind.u16.wrap (hd : Int))) = w3 at *
      have hhm : IntKind.u16.wrap (hd : Int) = ((hd % 65536 : Nat) : Int) := by
        have e : IntKind.u16.wrap (hd : Int) = (hd : Int) % 65536 := rfl
        rw [e]; omega
      rw [hhm] at HL
      clear hhm
      go_wp2_with fail
      refine (HL.out.word (bytesOf wCo)).mono ?_
      rintro e w9 ⟨rfl, hl, ho⟩
      replace HL := Lib.hid hl
      replace O1 := Lib.hid (own_rb O1.out ho HRL.out)
      replace O2 := Lib.hid (own_rb O2.out ho HRL.out)
      clear hl ho
      generalize wordS us bd (bytesOf wCo) = x0 at *
      obtain ⟨us', bd'⟩ := x0
      replace HC : Hid (RC = endD (sg : Int) tr ps ap hd (allS [] digF us' bd')) := HC.out
      clear us bd
      obtain ⟨us, rfl⟩ : ∃ x, x = us' := ⟨_, rfl⟩
      obtain ⟨bd, rfl⟩ : ∃ x, x = bd' := ⟨_, rfl⟩
      obtain ⟨w3, rfl⟩ : ∃ x, x = w9 := ⟨_, rfl⟩
      go_wp2_with fail
      refine (HL.out.allZ).mono ?_
      rintro e w9 ⟨⟨v4, rfl, ho4⟩, hl, ho⟩
      obtain ⟨a4, c4, rfl⟩ := own_sl ho4
      have O4 : Hid (w9.ownsRow (bx + 1) 3 1 (.slice a4 (allS [] digF us bd).1.length c4) (allS [] digF us bd).1.length (intsV (allS [] digF us bd).1)) := own_base ho4 (heap_lt HL.out.box)
      have K4 : Hid (∀ x ∈ (allS [] digF us bd).1, i64ok x) := digF_ok _ _ _
      replace O1 := Lib.hid (own_rb O1.out ho HRL.out)
      replace O2 := Lib.hid (own_rb O2.out ho HRL.out)
      replace HL := Lib.hid hl
      clear hl ho ho4
      generalize allS [] digF us bd = x0 at *
      obtain ⟨co, us', bd'⟩ := x0
      replace HC : Hid (RC = (⟨(sg : Int), tr, ps, ap, co, hd % 65536⟩, okC bd' us')) := HC.out
      clear us bd
      obtain ⟨us, rfl⟩ : ∃ x, x = us' := ⟨_, rfl⟩
      obtain ⟨bd, rfl⟩ : ∃ x, x = bd' := ⟨_, rfl⟩
      replace O4 : Hid (w9.ownsRow (bx + 1) 3 1 (.slice a4 co.length c4) co.length (intsV co)) := O4.out
      replace K4 : Hid (∀ x ∈ co, i64ok x) := K4.out
      replace O4 := Lib.hid (own_bx (i := 4) (x := .slice a4 co.length c4) O4.out HBL.out)
      have cc := cell_row (j := 4) HL.out.box rfl
      have ff : w9.frozen? ⟨bx, 4, none⟩ = false := frozen_of_row _ _ _ _ _ HL.out.box
      replace HL : Hid (LS sb rb bx all us bd #[.int .i64 (sg : Int), .slice a1 tr.length c1, .slice a2 ps.length c2, .int .i64 ap, .slice a4 co.length c4, .int .u16 ((hd % 65536 : Nat) : Int)] w (w9.setCell ⟨bx, 4, none⟩ (.slice a4 co.length c4))) := HL.out.set 4 (.slice a4 co.length c4)
      replace O1 := Lib.hid (own_bx (i := 4) (x := .slice a4 co.length c4) O1.out HBL.out)
      replace O2 := Lib.hid (own_bx (i := 4) (x := .slice a4 co.length c4) O2.out HBL.out)
      go_upto_region 16 with fail
      clear cc ff
      generalize w9.setCell ⟨bx, 4, none⟩ (.slice a4 co.length c4) = w3 at *
      have hm16 : hd % 65536 < 65536 := Nat.mod_lt _ (by omega)
      generalize hd % 65536 = hm at *
      obtain ⟨vp, vr, zs, h1, h2, h3, h4, h5⟩ := HT.out.at_
      obtain ⟨ra, rc, rfl⟩ := own_sl h3
      have KR : Hid (∀ k, (Value.slice ra zs.length rc).ownBlock = some k → k < sb) := fun k hk => by rw [HSB.out]; exact (h3.lt k hk).2
      have HBW : Hid (Below w.heap.size w w3.drew) := by rw [← HSB.out]; exact HL.out.drew.bel
      have HKD : Hid (w3.drew.heap[tb]? = some (.cells #[.int .i64 T.tracks, vp, .int .i64 T.sigs, .slice ra zs.length rc] 25 (0, 0))) := tb_kept h1 HBW.out
      have HTD : Hid (TM C tb T w3.drew) := HT.out.old HBW.out
      have H2D := Lib.hid (own_old h2 HBW.out); have H3D := Lib.hid (own_old h3 HBW.out)
      have H5D : Hid (∀ z ∈ zs, ZOk C w3.drew z) := fun z hz => (h5 z hz).old HBW.out
      have H4D := Lib.hid h4
      have HLD := Lib.hid HL.out.drew
      have O1D := Lib.hid (own_drew O1.out); have O2D := Lib.hid (own_drew O2.out); have O4D := Lib.hid (own_drew O4.out)
      have hzm : zs.length ≤ 1000000 := by rw [h4, List.length_map] at hp; exact hp
      clear h1 h2 h3 h4 h5 O1 O2 O4
      refine wp_region_T (BoxS tb bx (.slice ra zs.length rc) (.int .i64 (sg : Int)) (.slice a1 tr.length c1) (.slice a2 ps.length c2) (.int .i64 ap) (.slice a4 co.length c4) (.int .u16 (hm : Int))) [10] (by kernel_rfl) ?_
      change wpAnyT _ _ _ _ _ _ _ _ _ (World.drew _)
      generalize w3.drew = wd at *
      clear HL HBW
      have KB : Hid (∀ V : World, V.heap[tb]? = some (.cells #[.int .i64 T.tracks, vp, .int .i64 T.sigs, .slice ra zs.length rc] 25 (0, 0)) → V.heap[bx]? = some (.cells #[.int .i64 (sg : Int), .slice a1 tr.length c1, .slice a2 ps.length c2, .int .i64 ap, .slice a4 co.length c4, .int .u16 (hm : Int)] 30 (0, 0)) → BoxS tb bx (.slice ra zs.length rc) (.int .i64 (sg : Int)) (.slice a1 tr.length c1) (.slice a2 ps.length c2) (.int .i64 ap) (.slice a4 co.length c4) (.int .u16 (hm : Int)) V) := fun V h h' => ⟨cell_row h rfl, cell_row h' rfl, cell_row h' rfl, cell_row h' rfl, cell_row h' rfl, cell_row h' rfl, cell_row h' rfl⟩
      have KS : Hid (∀ V : World, BoxS tb bx (.slice ra zs.length rc) (.int .i64 (sg : Int)) (.slice a1 tr.length c1) (.slice a2 ps.length c2) (.int .i64 ap) (.slice a4 co.length c4) (.int .u16 (hm : Int)) V → (V.cell? ⟨tb, 3, none⟩ = some (.slice ra zs.length rc) ∧ V.cell? ⟨bx, 0, none⟩ = some (.int .i64 (sg : Int)) ∧ V.cell? ⟨bx, 1, none⟩ = some (.slice a1 tr.length c1) ∧ V.cell? ⟨bx, 2, none⟩ = some (.slice a2 ps.length c2) ∧ V.cell? ⟨bx, 3, none⟩ = some (.int .i64 ap) ∧ V.cell? ⟨bx, 4, none⟩ = some (.slice a4 co.length c4) ∧ V.cell? ⟨bx, 5, none⟩ = some (.int .u16 (hm : Int)))) := fun V h => h
      have S1 := KB.out _ HKD.out HLD.out.box
      refine wpAnyT_pure (i := 0) (v := ?_) rfl (by kernel_rfl) (by kernel_rfl) (by kernel_rfl) (by kernel_rfl) (fun _ _ _ h => h) (Or.inl ⟨by kernel_rfl, ?_⟩) (fun _ => by assumption) ?_
      rotate_left
      · intro V hV; clear hV; go_simp; try (with_reducible rfl)
      try simp only [Act.put, List.getElem_toArray, List.getElem_cons_succ, List.getElem_cons_zero, List.setIfInBounds_toArray, List.set_cons_zero, List.set_cons_succ]
      refine wpAnyT_pure (i := 1) (v := ?_) rfl (by kernel_rfl) (by kernel_rfl) (by kernel_rfl) (by kernel_rfl) (fun _ _ _ h => h) (Or.inl ⟨by kernel_rfl, ?_⟩) (fun _ => by assumption) ?_
      rotate_left
      · intro V hV; clear hV; go_simp; try (with_reducible rfl)
      try simp only [Act.put, List.getElem_toArray, List.getElem_cons_succ, List.getElem_cons_zero, List.setIfInBounds_toArray, List.set_cons_zero, List.set_cons_succ]
      refine wpAnyT_pure (i := 2) (v := ?_) rfl (by kernel_rfl) (by kernel_rfl) (by kernel_rfl) (by kernel_rfl) (fun _ _ _ h => h) (Or.inl ⟨by kernel_rfl, ?_⟩) (fun _ => by assumption) ?_
      rotate_left
      · intro V hV; clear hV; go_simp; try (with_reducible rfl)
      try simp only [Act.put, List.getElem_toArray, List.getElem_cons_succ, List.getElem_cons_zero, List.setIfInBounds_toArray, List.set_cons_zero, List.set_cons_succ]
      refine wpAnyT_pure (i := 3) (v := ?_) rfl (by kernel_rfl) (by kernel_rfl) (by kernel_rfl) (by kernel_rfl) (fun _ _ _ h => h) (Or.inl ⟨by kernel_rfl, ?_⟩) (fun _ => by assumption) ?_
      rotate_left
      · intro V hV; clear hV; go_simp; try (with_reducible rfl)
      try simp only [Act.put, List.getElem_toArray, List.getElem_cons_succ, List.getElem_cons_zero, List.setIfInBounds_toArray, List.set_cons_zero, List.set_cons_succ]
      refine wpAnyT_take (i := 4) (v := ?_) rfl (by kernel_rfl) (by kernel_rfl) (by kernel_rfl) (by kernel_rfl) (fun _ _ _ h => h) (Or.inl ⟨by kernel_rfl, ?_⟩) (by assumption) ?_
      rotate_left
      · intro V hV; have k := KS.out V hV; clear hV; go_simp; try (with_reducible rfl)
      try simp only [Act.put, List.getElem_toArray, List.getElem_cons_succ, List.getElem_cons_zero, List.setIfInBounds_toArray, List.set_cons_zero, List.set_cons_succ]
      refine wpAnyT_take (i := 5) (v := ?_) rfl (by kernel_rfl) (by kernel_rfl) (by kernel_rfl) (by kernel_rfl) (fun _ _ _ h => h) (Or.inl ⟨by kernel_rfl, ?_⟩) (by assumption) ?_
      rotate_left
      · intro V hV; have k := KS.out V hV; clear hV; go_simp; try (with_reducible rfl)
      try simp only [Act.put, List.getElem_toArray, List.getElem_cons_succ, List.getElem_cons_zero, List.setIfInBounds_toArray, List.set_cons_zero, List.set_cons_succ]
      refine wpAnyT_one (i := 6) (by kernel_rfl) rfl (fun K hK => ?_)
      go_simp
      have HKA : Hid ((wd.alloc (.cells #[.int .i64 (sg : Int), .slice a1 tr.length c1, .slice a2 ps.length c2, .int .i64 ap, .slice a4 co.length c4, .int .u16 (hm : Int)] 30)).heap[tb]? = some (.cells #[.int .i64 T.tracks, vp, .int .i64 T.sigs, .slice ra zs.length rc] 25 (0, 0))) := tb_kept HKD.out (tb_alloc_below _ _)
      have HBA : Hid ((wd.alloc (.cells #[.int .i64 (sg : Int), .slice a1 tr.length c1, .slice a2 ps.length c2, .int .i64 ap, .slice a4 co.length c4, .int .u16 (hm : Int)] 30)).heap[bx]? = some (.cells #[.int .i64 (sg : Int), .slice a1 tr.length c1, .slice a2 ps.length c2, .int .i64 ap, .slice a4 co.length c4, .int .u16 (hm : Int)] 30 (0, 0))) := tb_kept HLD.out.box (tb_alloc_below _ _)
      refine hK.out _ _ (fun _ => KB.out _ HKA.out HBA.out) ?_
      clear hK K S1
      try simp only [Act.put, List.getElem_toArray, List.getElem_cons_succ, List.getElem_cons_zero, List.setIfInBounds_toArray, List.set_cons_zero, List.set_cons_succ]
      have HOA := Lib.hid (H3D.out.alloc (.cells #[.int .i64 (sg : Int), .slice a1 tr.length c1, .slice a2 ps.length c2, .int .i64 ap, .slice a4 co.length c4, .int .u16 (hm : Int)] 30))
      have HCW : Hid (C ≤ wd.heap.size) := by have := HC0.out; have := HLD.out.wz; have := HLD.out.bel.size; show _ ≤ _; omega
      refine wpAnyT_one (i := 7) (by kernel_rfl) rfl (fun K hK => ?_)
      refine step_append_lies _ (by rfl) _ _ _ (by rfl) C 30 i0 (.agg #[.int .i64 0, .slice none 0 0, .slice none 0 0, .int .i64 0, .slice none 0 0, .int .u16 0]) 6 96 Tryz.underlying23 HIn.out HZ0.out HZ1.out HZ2.out rfl (by omega) _ zs.length (zs.flatMap zC) (by rfl) HOA.out ⟨wd.heap.size, 0, none⟩ 1 1 [.int .i64 (sg : Int), .slice a1 tr.length c1, .slice a2 ps.length c2, .int .i64 ap, .slice a4 co.length c4, .int .u16 (hm : Int)] (by rfl) (by rfl) (World.news_of_block (heap_alloc_new wd _)) (by simp [Value.oneCell']) (by omega) (by unfold maxLen; omega) (by omega) (by have := HCW.out; simp; omega) (wd.heap.size + 1) (by simp) ?_
      intro gg cap w8 hown8 hgrow hat hlt8
      have hOn := grown_only hgrow
      have h8 : w8.heap[tb]? = some (.cells #[.int .i64 T.tracks, vp, .int .i64 T.sigs, .slice ra zs.length rc] 25 (0, 0)) := (hOn.block tb (heap_lt HKD.out) (fun e => own_ne H3D.out HKD.out (by decide) tb e.symm rfl)).trans HKD.out
      have hb8 : w8.heap[bx]? = some (.cells #[.int .i64 (sg : Int), .slice a1 tr.length c1, .slice a2 ps.length c2, .int .i64 ap, .slice a4 co.length c4, .int .u16 (hm : Int)] 30 (0, 0)) := (hOn.block bx (heap_lt HLD.out.box) (fun e => by have := KR.out bx e.symm; have := HLD.out.o1; have := HLD.out.o2; omega)).trans HLD.out.box
      have HR8 : Hid (RdAt rb sb all us bd w8) := by
        obtain ⟨qa, k1, k2⟩ := HLD.out.rd.at_
        exact HLD.out.rd.put ((hOn.block rb (heap_lt k1) (fun e => own_ne H3D.out k1 (by decide) rb e.symm rfl)).trans k1) (hOn.block sb (heap_lt HLD.out.rd.row) (fun e => own_ne H3D.out HLD.out.rd.row (by decide) sb e.symm rfl)) k2
      have HB8 : Hid (Below C w w8) := (HLD.out.bel.mono HC0.out).trans (hOn.below HCW.out (fun i hi e => by have := (H3D.out.lt i e.symm).1; omega))
      have hCb : C ≤ bx + 1 := by have := HC0.out; have := HLD.out.o1; have := HLD.out.o2; omega
      have hz : ZOk C wd (⟨(sg : Int), tr, ps, ap, co, hm⟩, .slice a1 tr.length c1, .slice a2 ps.length c2, .slice a4 co.length c4) := ⟨own_base O1D.out hCb, own_base O2D.out hCb, own_base O4D.out hCb, ⟨by show _ ≤ (sg : Int); omega, by show (sg : Int) ≤ _; omega⟩, KAP.out, hm16, K1.out, K2.out, K4.out⟩
      have HT8 := Lib.hid (HTD.out.addRt HKD.out H2D.out H3D.out H4D.out H5D.out hgrow (z := (⟨(sg : Int), tr, ps, ap, co, hm⟩, .slice a1 tr.length c1, .slice a2 ps.length c2, .slice a4 co.length c4)) (by rw [List.length_append, List.flatMap_append]; exact hown8) hz)
      have e1 : w8.cell? ⟨tb, 3, none⟩ = some (.slice ra zs.length rc) := cell_row h8 rfl
      have g1 : w8.frozen? ⟨tb, 3, none⟩ = false := frozen_of_row _ _ _ _ _ h8
      have S3 := KB.out _ h8 hb8
      refine hK.out _ _ (fun _ => S3) ?_
      clear hK K hown8 hgrow hat hlt8 hOn h8 hb8 HOA HKA HBA hz hCb HTD H2D H3D H4D H5D O1D O2D O4D HKD
      try simp only [Act.put, List.getElem_toArray, List.getElem_cons_succ, List.getElem_cons_zero, List.setIfInBounds_toArray, List.set_cons_zero, List.set_cons_succ]
      refine wpAnyT_pure (i := 8) (v := ?_) rfl (by kernel_rfl) (by kernel_rfl) (by kernel_rfl) (by kernel_rfl) (fun _ _ _ h => h) (Or.inl ⟨by kernel_rfl, ?_⟩) (fun _ => by assumption) ?_
      rotate_left
      · intro V hV; clear hV; go_simp; try (with_reducible rfl)
      try simp only [Act.put, List.getElem_toArray, List.getElem_cons_succ, List.getElem_cons_zero, List.setIfInBounds_toArray, List.set_cons_zero, List.set_cons_succ]
      refine wpAnyT_pure (i := 9) (v := ?_) rfl (by kernel_rfl) (by kernel_rfl) (by kernel_rfl) (by kernel_rfl) (fun _ _ _ h => h) (Or.inl ⟨by kernel_rfl, ?_⟩) (fun _ => by assumption) ?_
      rotate_left
      · intro V hV; clear hV; go_simp; try (with_reducible rfl)
      try simp only [Act.put, List.getElem_toArray, List.getElem_cons_succ, List.getElem_cons_zero, List.setIfInBounds_toArray, List.set_cons_zero, List.set_cons_succ]
      refine wpAnyT_one (i := 10) (by kernel_rfl) rfl (fun K hK => ?_)
      go_simp
      clear S3
      refine hK.out _ _ (fun h => absurd (show false = true from h) (by decide)) ?_
      clear hK K
      try simp only [Act.put, List.getElem_toArray, List.getElem_cons_succ, List.getElem_cons_zero, List.setIfInBounds_toArray, List.set_cons_zero, List.set_cons_succ]
      refine wpAnyT_done (by kernel_rfl) ?_ _
      have HR9 := Lib.hid (HR8.out.other (tb := tb) (i := 3) (x := .slice (some ⟨gg, 0, none⟩) (zs.length + 1) cap) (by have := HTZ.out; have := HLD.out.o1; omega) (by have := HTZ.out; omega))
      have HB9 : Hid (Below C w (w8.setCell ⟨tb, 3, none⟩ (.slice (some ⟨gg, 0, none⟩) (zs.length + 1) cap))) := HB8.out.setCell (p := ⟨tb, 3, none⟩) HT.out.low _
      clear HR8 HB8 e1 g1 KS KB
      generalize w8.setCell ⟨tb, 3, none⟩ (.slice (some ⟨gg, 0, none⟩) (zs.length + 1) cap) = w10 at *
      have HST : Hid (stepT T n s.data.toList = if okC bd us = true then some { T with rts := T.rts ++ [⟨(sg : Int), tr, ps, ap, co, hm⟩] } else none) := by
        show _ = _
        rw [step_route hn HH.out]
        have h := HGV.out
        rw [HC.out] at h
        rw [show rtT (partL 32 s.data.toList) = if okC bd us = true then some ⟨(sg : Int), tr, ps, ap, co, hm⟩ else none from h]
        cases okC bd us <;> rfl
      have HFIN : Hid (∀ ok, ok = okC bd us → LineP C tb T n s.data.toList w (.returned (.bool ok)) w10) := fun ok hok => by
        refine ⟨⟨ok, rfl, fun T' h => ?_, fun h => ?_⟩, HB9.out⟩
        · rw [HST.out] at h
          subst hok
          cases hb : okC bd us with
          | true => rw [hb] at h; obtain rfl := Option.some.inj h; exact ⟨rfl, HT8.out⟩
          | false => rw [hb] at h; cases h
        · rw [HST.out] at h
          subst hok
          cases hb : okC bd us with
          | true => rw [hb] at h; cases h
          | false => rfl
      clear HST HC HGV HT8 HB9 HT HH HLD
      go_upto_region 26 with fail
      cases bd with
      | true =>
        obtain ⟨ra, hr, _⟩ := HR9.out.at_
        have c1 : w10.cell? ⟨rb, 1, none⟩ = some (.bool true) := cell_row hr rfl
        clear hr
        go_wp2_with fail
        go_ret
        exact HFIN.out false rfl
      | false =>
        cases us with
        | nil =>
          obtain ⟨ra, hr⟩ := HR9.out.nil
          have c1 : w10.cell? ⟨rb, 1, none⟩ = some (.bool false) := cell_row hr rfl
          have c0 : w10.cell? ⟨rb, 0, none⟩ = some (.slice ra 0 0) := cell_row hr rfl
          clear hr
          go_wp2_with fail
          go_ret
          exact HFIN.out true rfl
        | cons q0 r0 =>
          obtain ⟨o0, hr, _, _, _⟩ := HR9.out.head
          have hl0 : r0.length + 1 ≤ 1000000 := by have := HR9.out.left; simpa using this
          have c1 : w10.cell? ⟨rb, 1, none⟩ = some (.bool false) := cell_row hr rfl
          have c0 : w10.cell? ⟨rb, 0, none⟩ = some (.slice (some ⟨sb, o0, none⟩) (r0.length + 1) (r0.length + 1)) := cell_row hr rfl
          have t0 : ((r0.length : Int) + 1 == 0) = false := beq_eq_false_iff_ne.2 (by omega)
          clear hr
          go_wp2_with fail
          go_ret
          exact HFIN.out false rfl
    | cons q0 r0 =>
      obtain ⟨o0, hr, y0, ysl, _⟩ := HL.out.rd.head
      have d0 : w3.cell? ⟨rb, 0, none⟩ = some (.slice (some ⟨sb, o0, none⟩) (r0.length + 1) (r0.length + 1)) := cell_row hr rfl
      have hl0 : r0.length + 1 ≤ 1000000 := by have := HL.out.rd.left; simpa using this
      by_cases hq0 : q0 = { data := #[97, 112, 112, 114, 111, 97, 99, 104] }
      · subst hq0
        replace HC : Hid (RC = apC1 (sg : Int) tr ps (wordS us1 bd (bytesOf wAp))) := by rw [hus]; exact HC.out.trans (apC_hit _ _ _ rfl)
        rw [← hus] at HL
        clear hus hr
        obtain ⟨us, rfl⟩ : ∃ x, x = us1 := ⟨_, rfl⟩
        go_wp2_with fail
        refine (HL.out.word (bytesOf wAp)).mono ?_
        rintro e w9 ⟨rfl, hl, ho⟩
        replace HL := Lib.hid hl
        replace O1 := Lib.hid (own_rb O1.out ho HRL.out)
        replace O2 := Lib.hid (own_rb O2.out ho HRL.out)
        clear hl ho
        generalize wordS us bd (bytesOf wAp) = x0 at *
        obtain ⟨us', bd'⟩ := x0
        replace HC : Hid (RC = apC2 (sg : Int) tr ps (numS2 us' bd')) := HC.out
        clear us bd
        obtain ⟨us, rfl⟩ : ∃ x, x = us' := ⟨_, rfl⟩
        obtain ⟨bd, rfl⟩ : ∃ x, x = bd' := ⟨_, rfl⟩
        obtain ⟨w3, rfl⟩ : ∃ x, x = w9 := ⟨_, rfl⟩
        clear d0 y0 ysl
        go_wp2_with fail
        refine (HL.out.num).mono ?_
        rintro e w9 ⟨rfl, hl, ho⟩
        replace HL := Lib.hid hl
        replace O1 := Lib.hid (own_rb O1.out ho HRL.out)
        replace O2 := Lib.hid (own_rb O2.out ho HRL.out)
        clear hl ho
        have hlt_ax := numS2_lt us bd
        generalize numS2 us bd = x0 at *
        obtain ⟨ax, us', bd'⟩ := x0
        replace HC : Hid (RC = endC1 (sg : Int) tr ps (ax : Int) (wordS us' bd' (bytesOf wHo))) := HC.out
        have hlt_ax : ax < 100000 := hlt_ax
        clear us bd
        obtain ⟨us, rfl⟩ : ∃ x, x = us' := ⟨_, rfl⟩
        obtain ⟨bd, rfl⟩ : ∃ x, x = bd' := ⟨_, rfl⟩
        have cc := cell_row (j := 3) HL.out.box rfl
        have ff : w9.frozen? ⟨bx, 3, none⟩ = false := frozen_of_row _ _ _ _ _ HL.out.box
        replace HL : Hid (LS sb rb bx all us bd #[.int .i64 (sg : Int), .slice a1 tr.length c1, .slice a2 ps.length c2, .int .i64 (ax : Int), .slice none 0 0, .int .u16 0] w (w9.setCell ⟨bx, 3, none⟩ (.int .i64 (ax : Int)))) := HL.out.set 3 (.int .i64 (ax : Int))
        replace O1 := Lib.hid (own_bx (i := 3) (x := .int .i64 (ax : Int)) O1.out HBL.out)
        replace O2 := Lib.hid (own_bx (i := 3) (x := .int .i64 (ax : Int)) O2.out HBL.out)
        go_upto_region 12 with fail
        clear cc ff
        generalize w9.setCell ⟨bx, 3, none⟩ (.int .i64 (ax : Int)) = w3 at *
        have KAP : Hid (i64ok (ax : Int)) := ⟨by omega, by omega⟩
        obtain ⟨ap, hap⟩ : ∃ ap : Int, ap = (ax : Int) := ⟨_, rfl⟩
        rw [← hap] at KAP HL HC
        clear hap
        go_wp2_with fail
        refine (HL.out.word (bytesOf wHo)).mono ?_
        rintro e w9 ⟨rfl, hl, ho⟩
        replace HL := Lib.hid hl
        replace O1 := Lib.hid (own_rb O1.out ho HRL.out)
        replace O2 := Lib.hid (own_rb O2.out ho HRL.out)
        clear hl ho
        generalize wordS us bd (bytesOf wHo) = x0 at *
        obtain ⟨us', bd'⟩ := x0
        replace HC : Hid (RC = endC2 (sg : Int) tr ps ap (numS2 us' bd')) := HC.out
        clear us bd
        obtain ⟨us, rfl⟩ : ∃ x, x = us' := ⟨_, rfl⟩
        obtain ⟨bd, rfl⟩ : ∃ x, x = bd' := ⟨_, rfl⟩
        obtain ⟨w3, rfl⟩ : ∃ x, x = w9 := ⟨_, rfl⟩
        go_wp2_with fail
        refine (HL.out.num).mono ?_
        rintro e w9 ⟨rfl, hl, ho⟩
        replace HL := Lib.hid hl
        replace O1 := Lib.hid (own_rb O1.out ho HRL.out)
        replace O2 := Lib.hid (own_rb O2.out ho HRL.out)
        clear hl ho
        have hlt_hd := numS2_lt us bd
        generalize numS2 us bd = x0 at *
        obtain ⟨hd, us', bd'⟩ := x0
        replace HC : Hid (RC = endC3 (sg : Int) tr ps ap hd (wordS us' bd' (bytesOf wCo))) := HC.out
        have hlt_hd : hd < 100000 := hlt_hd
        clear us bd
        obtain ⟨us, rfl⟩ : ∃ x, x = us' := ⟨_, rfl⟩
        obtain ⟨bd, rfl⟩ : ∃ x, x = bd' := ⟨_, rfl⟩
        have cc := cell_row (j := 5) HL.out.box rfl
        have ff : w9.frozen? ⟨bx, 5, none⟩ = false := frozen_of_row _ _ _ _ _ HL.out.box
        replace HL : Hid (LS sb rb bx all us bd #[.int .i64 (sg : Int), .slice a1 tr.length c1, .slice a2 ps.length c2, .int .i64 ap, .slice none 0 0, .int .u16 (IntKind.u16.wrap (hd : Int))] w (w9.setCell ⟨bx, 5, none⟩ (.int .u16 (IntKind.u16.wrap (hd : Int))))) := HL.out.set 5 (.int .u16 (IntKind.u16.wrap (hd : Int)))
        replace O1 := Lib.hid (own_bx (i := 5) (x := .int .u16 (IntKind.u16.wrap (hd : Int))) O1.out HBL.out)
        replace O2 := Lib.hid (own_bx (i := 5) (x := .int .u16 (IntKind.u16.wrap (hd : Int))) O2.out HBL.out)
        go_upto_region 14 with fail
        clear cc ff
        generalize w9.setCell ⟨bx, 5, none⟩ (.int .u16 (IntKind.u16.wrap (hd : Int))) = w3 at *
        have hhm : IntKind.u16.wrap (hd : Int) = ((hd % 65536 : Nat) : Int) := by
          have e : IntKind.u16.wrap (hd : Int) = (hd : Int) % 65536 := rfl
          rw [e]; omega
        rw [hhm] at HL
        clear hhm
        go_wp2_with fail
        refine (HL.out.word (bytesOf wCo)).mono ?_
        rintro e w9 ⟨rfl, hl, ho⟩
        replace HL := Lib.hid hl
        replace O1 := Lib.hid (own_rb O1.out ho HRL.out)
        replace O2 := Lib.hid (own_rb O2.out ho HRL.out)
        clear hl ho
        generalize wordS us bd (bytesOf wCo) = x0 at *
        obtain ⟨us', bd'⟩ := x0
        replace HC : Hid (RC = endD (sg : Int) tr ps ap hd (allS [] digF us' bd')) := HC.out
        clear us bd
        obtain ⟨us, rfl⟩ : ∃ x, x = us' := ⟨_, rfl⟩
        obtain ⟨bd, rfl⟩ : ∃ x, x = bd' := ⟨_, rfl⟩
        obtain ⟨w3, rfl⟩ : ∃ x, x = w9 := ⟨_, rfl⟩
        go_wp2_with fail
        refine (HL.out.allZ).mono ?_
        rintro e w9 ⟨⟨v4, rfl, ho4⟩, hl, ho⟩
        obtain ⟨a4, c4, rfl⟩ := own_sl ho4
        have O4 : Hid (w9.ownsRow (bx + 1) 3 1 (.slice a4 (allS [] digF us bd).1.length c4) (allS [] digF us bd).1.length (intsV (allS [] digF us bd).1)) := own_base ho4 (heap_lt HL.out.box)
        have K4 : Hid (∀ x ∈ (allS [] digF us bd).1, i64ok x) := digF_ok _ _ _
        replace O1 := Lib.hid (own_rb O1.out ho HRL.out)
        replace O2 := Lib.hid (own_rb O2.out ho HRL.out)
        replace HL := Lib.hid hl
        clear hl ho ho4
        generalize allS [] digF us bd = x0 at *
        obtain ⟨co, us', bd'⟩ := x0
        replace HC : Hid (RC = (⟨(sg : Int), tr, ps, ap, co, hd % 65536⟩, okC bd' us')) := HC.out
        clear us bd
        obtain ⟨us, rfl⟩ : ∃ x, x = us' := ⟨_, rfl⟩
        obtain ⟨bd, rfl⟩ : ∃ x, x = bd' := ⟨_, rfl⟩
        replace O4 : Hid (w9.ownsRow (bx + 1) 3 1 (.slice a4 co.length c4) co.length (intsV co)) := O4.out
        replace K4 : Hid (∀ x ∈ co, i64ok x) := K4.out
        replace O4 := Lib.hid (own_bx (i := 4) (x := .slice a4 co.length c4) O4.out HBL.out)
        have cc := cell_row (j := 4) HL.out.box rfl
        have ff : w9.frozen? ⟨bx, 4, none⟩ = false := frozen_of_row _ _ _ _ _ HL.out.box
        replace HL : Hid (LS sb rb bx all us bd #[.int .i64 (sg : Int), .slice a1 tr.length c1, .slice a2 ps.length c2, .int .i64 ap, .slice a4 co.length c4, .int .u16 ((hd % 65536 : Nat) : Int)] w (w9.setCell ⟨bx, 4, none⟩ (.slice a4 co.length c4))) := HL.out.set 4 (.slice a4 co.length c4)
        replace O1 := Lib.hid (own_bx (i := 4) (x := .slice a4 co.length c4) O1.out HBL.out)
        replace O2 := Lib.hid (own_bx (i := 4) (x := .slice a4 co.length c4) O2.out HBL.out)
        go_upto_region 16 with fail
        clear cc ff
        generalize w9.setCell ⟨bx, 4, none⟩ (.slice a4 co.length c4) = w3 at *
        have hm16 : hd % 65536 < 65536 := Nat.mod_lt _ (by omega)
        generalize hd % 65536 = hm at *
        obtain ⟨vp, vr, zs, h1, h2, h3, h4, h5⟩ := HT.out.at_
        obtain ⟨ra, rc, rfl⟩ := own_sl h3
        have KR : Hid (∀ k, (Value.slice ra zs.length rc).ownBlock = some k → k < sb) := fun k hk => by rw [HSB.out]; exact (h3.lt k hk).2
        have HBW : Hid (Below w.heap.size w w3.drew) := by rw [← HSB.out]; exact HL.out.drew.bel
        have HKD : Hid (w3.drew.heap[tb]? = some (.cells #[.int .i64 T.tracks, vp, .int .i64 T.sigs, .slice ra zs.length rc] 25 (0, 0))) := tb_kept h1 HBW.out
        have HTD : Hid (TM C tb T w3.drew) := HT.out.old HBW.out
        have H2D := Lib.hid (own_old h2 HBW.out); have H3D := Lib.hid (own_old h3 HBW.out)
        have H5D : Hid (∀ z ∈ zs, ZOk C w3.drew z) := fun z hz => (h5 z hz).old HBW.out
        have H4D := Lib.hid h4
        have HLD := Lib.hid HL.out.drew
        have O1D := Lib.hid (own_drew O1.out); have O2D := Lib.hid (own_drew O2.out); have O4D := Lib.hid (own_drew O4.out)
        have hzm : zs.length ≤ 1000000 := by rw [h4, List.length_map] at hp; exact hp
        clear h1 h2 h3 h4 h5 O1 O2 O4
        refine wp_region_T (BoxS tb bx (.slice ra zs.length rc) (.int .i64 (sg : Int)) (.slice a1 tr.length c1) (.slice a2 ps.length c2) (.int .i64 ap) (.slice a4 co.length c4) (.int .u16 (hm : Int))) [10] (by kernel_rfl) ?_
        change wpAnyT _ _ _ _ _ _ _ _ _ (World.drew _)
        generalize w3.drew = wd at *
        clear HL HBW
        have KB : Hid (∀ V : World, V.heap[tb]? = some (.cells #[.int .i64 T.tracks, vp, .int .i64 T.sigs, .slice ra zs.length rc] 25 (0, 0)) → V.heap[bx]? = some (.cells #[.int .i64 (sg : Int), .slice a1 tr.length c1, .slice a2 ps.length c2, .int .i64 ap, .slice a4 co.length c4, .int .u16 (hm : Int)] 30 (0, 0)) → BoxS tb bx (.slice ra zs.length rc) (.int .i64 (sg : Int)) (.slice a1 tr.length c1) (.slice a2 ps.length c2) (.int .i64 ap) (.slice a4 co.length c4) (.int .u16 (hm : Int)) V) := fun V h h' => ⟨cell_row h rfl, cell_row h' rfl, cell_row h' rfl, cell_row h' rfl, cell_row h' rfl, cell_row h' rfl, cell_row h' rfl⟩
        have KS : Hid (∀ V : World, BoxS tb bx (.slice ra zs.length rc) (.int .i64 (sg : Int)) (.slice a1 tr.length c1) (.slice a2 ps.length c2) (.int .i64 ap) (.slice a4 co.length c4) (.int .u16 (hm : Int)) V → (V.cell? ⟨tb, 3, none⟩ = some (.slice ra zs.length rc) ∧ V.cell? ⟨bx, 0, none⟩ = some (.int .i64 (sg : Int)) ∧ V.cell? ⟨bx, 1, none⟩ = some (.slice a1 tr.length c1) ∧ V.cell? ⟨bx, 2, none⟩ = some (.slice a2 ps.length c2) ∧ V.cell? ⟨bx, 3, none⟩ = some (.int .i64 ap) ∧ V.cell? ⟨bx, 4, none⟩ = some (.slice a4 co.length c4) ∧ V.cell? ⟨bx, 5, none⟩ = some (.int .u16 (hm : Int)))) := fun V h => h
        have S1 := KB.out _ HKD.out HLD.out.box
        refine wpAnyT_pure (i := 0) (v := ?_) rfl (by kernel_rfl) (by kernel_rfl) (by kernel_rfl) (by kernel_rfl) (fun _ _ _ h => h) (Or.inl ⟨by kernel_rfl, ?_⟩) (fun _ => by assumption) ?_
        rotate_left
        · intro V hV; clear hV; go_simp; try (with_reducible rfl)
        try simp only [Act.put, List.getElem_toArray, List.getElem_cons_succ, List.getElem_cons_zero, List.setIfInBounds_toArray, List.set_cons_zero, List.set_cons_succ]
        refine wpAnyT_pure (i := 1) (v := ?_) rfl (by kernel_rfl) (by kernel_rfl) (by kernel_rfl) (by kernel_rfl) (fun _ _ _ h => h) (Or.inl ⟨by kernel_rfl, ?_⟩) (fun _ => by assumption) ?_
        rotate_left
        · intro V hV; clear hV; go_simp; try (with_reducible rfl)
        try simp only [Act.put, List.getElem_toArray, List.getElem_cons_succ, List.getElem_cons_zero, List.setIfInBounds_toArray, List.set_cons_zero, List.set_cons_succ]
        refine wpAnyT_pure (i := 2) (v := ?_) rfl (by kernel_rfl) (by kernel_rfl) (by kernel_rfl) (by kernel_rfl) (fun _ _ _ h => h) (Or.inl ⟨by kernel_rfl, ?_⟩) (fun _ => by assumption) ?_
        rotate_left
        · intro V hV; clear hV; go_simp; try (with_reducible rfl)
        try simp only [Act.put, List.getElem_toArray, List.getElem_cons_succ, List.getElem_cons_zero, List.setIfInBounds_toArray, List.set_cons_zero, List.set_cons_succ]
        refine wpAnyT_pure (i := 3) (v := ?_) rfl (by kernel_rfl) (by kernel_rfl) (by kernel_rfl) (by kernel_rfl) (fun _ _ _ h => h) (Or.inl ⟨by kernel_rfl, ?_⟩) (fun _ => by assumption) ?_
        rotate_left
        · intro V hV; clear hV; go_simp; try (with_reducible rfl)
        try simp only [Act.put, List.getElem_toArray, List.getElem_cons_succ, List.getElem_cons_zero, List.setIfInBounds_toArray, List.set_cons_zero, List.set_cons_succ]
        refine wpAnyT_take (i := 4) (v := ?_) rfl (by kernel_rfl) (by kernel_rfl) (by kernel_rfl) (by kernel_rfl) (fun _ _ _ h => h) (Or.inl ⟨by kernel_rfl, ?_⟩) (by assumption) ?_
        rotate_left
        · intro V hV; have k := KS.out V hV; clear hV; go_simp; try (with_reducible rfl)
        try simp only [Act.put, List.getElem_toArray, List.getElem_cons_succ, List.getElem_cons_zero, List.setIfInBounds_toArray, List.set_cons_zero, List.set_cons_succ]
        refine wpAnyT_take (i := 5) (v := ?_) rfl (by kernel_rfl) (by kernel_rfl) (by kernel_rfl) (by kernel_rfl) (fun _ _ _ h => h) (Or.inl ⟨by kernel_rfl, ?_⟩) (by assumption) ?_
        rotate_left
        · intro V hV; have k := KS.out V hV; clear hV; go_simp; try (with_reducible rfl)
        try simp only [Act.put, List.getElem_toArray, List.getElem_cons_succ, List.getElem_cons_zero, List.setIfInBounds_toArray, List.set_cons_zero, List.set_cons_succ]
        refine wpAnyT_one (i := 6) (by kernel_rfl) rfl (fun K hK => ?_)
        go_simp
        have HKA : Hid ((wd.alloc (.cells #[.int .i64 (sg : Int), .slice a1 tr.length c1, .slice a2 ps.length c2, .int .i64 ap, .slice a4 co.length c4, .int .u16 (hm : Int)] 30)).heap[tb]? = some (.cells #[.int .i64 T.tracks, vp, .int .i64 T.sigs, .slice ra zs.length rc] 25 (0, 0))) := tb_kept HKD.out (tb_alloc_below _ _)
        have HBA : Hid ((wd.alloc (.cells #[.int .i64 (sg : Int), .slice a1 tr.length c1, .slice a2 ps.length c2, .int .i64 ap, .slice a4 co.length c4, .int .u16 (hm : Int)] 30)).heap[bx]? = some (.cells #[.int .i64 (sg : Int), .slice a1 tr.length c1, .slice a2 ps.length c2, .int .i64 ap, .slice a4 co.length c4, .int .u16 (hm : Int)] 30 (0, 0))) := tb_kept HLD.out.box (tb_alloc_below _ _)
        refine hK.out _ _ (fun _ => KB.out _ HKA.out HBA.out) ?_
        clear hK K S1
        try simp only [Act.put, List.getElem_toArray, List.getElem_cons_succ, List.getElem_cons_zero, List.setIfInBounds_toArray, List.set_cons_zero, List.set_cons_succ]
        have HOA := Lib.hid (H3D.out.alloc (.cells #[.int .i64 (sg : Int), .slice a1 tr.length c1, .slice a2 ps.length c2, .int .i64 ap, .slice a4 co.length c4, .int .u16 (hm : Int)] 30))
        have HCW : Hid (C ≤ wd.heap.size) := by have := HC0.out; have := HLD.out.wz; have := HLD.out.bel.size; show _ ≤ _; omega
        refine wpAnyT_one (i := 7) (by kernel_rfl) rfl (fun K hK => ?_)
        refine step_append_lies _ (by rfl) _ _ _ (by rfl) C 30 i0 (.agg #[.int .i64 0, .slice none 0 0, .slice none 0 0, .int .i64 0, .slice none 0 0, .int .u16 0]) 6 96 Tryz.underlying23 HIn.out HZ0.out HZ1.out HZ2.out rfl (by omega) _ zs.length (zs.flatMap zC) (by rfl) HOA.out ⟨wd.heap.size, 0, none⟩ 1 1 [.int .i64 (sg : Int), .slice a1 tr.length c1, .slice a2 ps.length c2, .int .i64 ap, .slice a4 co.length c4, .int .u16 (hm : Int)] (by rfl) (by rfl) (World.news_of_block (heap_alloc_new wd _)) (by simp [Value.oneCell']) (by omega) (by unfold maxLen; omega) (by omega) (by have := HCW.out; simp; omega) (wd.heap.size + 1) (by simp) ?_
        intro gg cap w8 hown8 hgrow hat hlt8
        have hOn := grown_only hgrow
        have h8 : w8.heap[tb]? = some (.cells #[.int .i64 T.tracks, vp, .int .i64 T.sigs, .slice ra zs.length rc] 25 (0, 0)) := (hOn.block tb (heap_lt HKD.out) (fun e => own_ne H3D.out HKD.out (by decide) tb e.symm rfl)).trans HKD.out
        have hb8 : w8.heap[bx]? = some (.cells #[.int .i64 (sg : Int), .slice a1 tr.length c1, .slice a2 ps.length c2, .int .i64 ap, .slice a4 co.length c4, .int .u16 (hm : Int)] 30 (0, 0)) := (hOn.block bx (heap_lt HLD.out.box) (fun e => by have := KR.out bx e.symm; have := HLD.out.o1; have := HLD.out.o2; omega)).trans HLD.out.box
        have HR8 : Hid (RdAt rb sb all us bd w8) := by
          obtain ⟨qa, k1, k2⟩ := HLD.out.rd.at_
          exact HLD.out.rd.put ((hOn.block rb (heap_lt k1) (fun e => own_ne H3D.out k1 (by decide) rb e.symm rfl)).trans k1) (hOn.block sb (heap_lt HLD.out.rd.row) (fun e => own_ne H3D.out HLD.out.rd.row (by decide) sb e.symm rfl)) k2
        have HB8 : Hid (Below C w w8) := (HLD.out.bel.mono HC0.out).trans (hOn.below HCW.out (fun i hi e => by have := (H3D.out.lt i e.symm).1; omega))
        have hCb : C ≤ bx + 1 := by have := HC0.out; have := HLD.out.o1; have := HLD.out.o2; omega
        have hz : ZOk C wd (⟨(sg : Int), tr, ps, ap, co, hm⟩, .slice a1 tr.length c1, .slice a2 ps.length c2, .slice a4 co.length c4) := ⟨own_base O1D.out hCb, own_base O2D.out hCb, own_base O4D.out hCb, ⟨by show _ ≤ (sg : Int); omega, by show (sg : Int) ≤ _; omega⟩, KAP.out, hm16, K1.out, K2.out, K4.out⟩
        have HT8 := Lib.hid (HTD.out.addRt HKD.out H2D.out H3D.out H4D.out H5D.out hgrow (z := (⟨(sg : Int), tr, ps, ap, co, hm⟩, .slice a1 tr.length c1, .slice a2 ps.length c2, .slice a4 co.length c4)) (by rw [List.length_append, List.flatMap_append]; exact hown8) hz)
        have e1 : w8.cell? ⟨tb, 3, none⟩ = some (.slice ra zs.length rc) := cell_row h8 rfl
        have g1 : w8.frozen? ⟨tb, 3, none⟩ = false := frozen_of_row _ _ _ _ _ h8
        have S3 := KB.out _ h8 hb8
        refine hK.out _ _ (fun _ => S3) ?_
        clear hK K hown8 hgrow hat hlt8 hOn h8 hb8 HOA HKA HBA hz hCb HTD H2D H3D H4D H5D O1D O2D O4D HKD
        try simp only [Act.put, List.getElem_toArray, List.getElem_cons_succ, List.getElem_cons_zero, List.setIfInBounds_toArray, List.set_cons_zero, List.set_cons_succ]
        refine wpAnyT_pure (i := 8) (v := ?_) rfl (by kernel_rfl) (by kernel_rfl) (by kernel_rfl) (by kernel_rfl) (fun _ _ _ h => h) (Or.inl ⟨by kernel_rfl, ?_⟩) (fun _ => by assumption) ?_
        rotate_left
        · intro V hV; clear hV; go_simp; try (with_reducible rfl)
        try simp only [Act.put, List.getElem_toArray, List.getElem_cons_succ, List.getElem_cons_zero, List.setIfInBounds_toArray, List.set_cons_zero, List.set_cons_succ]
        refine wpAnyT_pure (i := 9) (v := ?_) rfl (by kernel_rfl) (by kernel_rfl) (by kernel_rfl) (by kernel_rfl) (fun _ _ _ h => h) (Or.inl ⟨by kernel_rfl, ?_⟩) (fun _ => by assumption) ?_
        rotate_left
        · intro V hV; clear hV; go_simp; try (with_reducible rfl)
        try simp only [Act.put, List.getElem_toArray, List.getElem_cons_succ, List.getElem_cons_zero, List.setIfInBounds_toArray, List.set_cons_zero, List.set_cons_succ]
        refine wpAnyT_one (i := 10) (by kernel_rfl) rfl (fun K hK => ?_)
        go_simp
        clear S3
        refine hK.out _ _ (fun h => absurd (show false = true from h) (by decide)) ?_
        clear hK K
        try simp only [Act.put, List.getElem_toArray, List.getElem_cons_succ, List.getElem_cons_zero, List.setIfInBounds_toArray, List.set_cons_zero, List.set_cons_succ]
        refine wpAnyT_done (by kernel_rfl) ?_ _
        have HR9 := Lib.hid (HR8.out.other (tb := tb) (i := 3) (x := .slice (some ⟨gg, 0, none⟩) (zs.length + 1) cap) (by have := HTZ.out; have := HLD.out.o1; omega) (by have := HTZ.out; omega))
        have HB9 : Hid (Below C w (w8.setCell ⟨tb, 3, none⟩ (.slice (some ⟨gg, 0, none⟩) (zs.length + 1) cap))) := HB8.out.setCell (p := ⟨tb, 3, none⟩) HT.out.low _
        clear HR8 HB8 e1 g1 KS KB
        generalize w8.setCell ⟨tb, 3, none⟩ (.slice (some ⟨gg, 0, none⟩) (zs.length + 1) cap) = w10 at *
        have HST : Hid (stepT T n s.data.toList = if okC bd us = true then some { T with rts := T.rts ++ [⟨(sg : Int), tr, ps, ap, co, hm⟩] } else none) := by
          show _ = _
          rw [step_route hn HH.out]
          have h := HGV.out
          rw [HC.out] at h
          rw [show rtT (partL 32 s.data.toList) = if okC bd us = true then some ⟨(sg : Int), tr, ps, ap, co, hm⟩ else none from h]
          cases okC bd us <;> rfl
        have HFIN : Hid (∀ ok, ok = okC bd us → LineP C tb T n s.data.toList w (.returned (.bool ok)) w10) := fun ok hok => by
          refine ⟨⟨ok, rfl, fun T' h => ?_, fun h => ?_⟩, HB9.out⟩
          · rw [HST.out] at h
            subst hok
            cases hb : okC bd us with
            | true => rw [hb] at h; obtain rfl := Option.some.inj h; exact ⟨rfl, HT8.out⟩
            | false => rw [hb] at h; cases h
          · rw [HST.out] at h
            subst hok
            cases hb : okC bd us with
            | true => rw [hb] at h; cases h
            | false => rfl
        clear HST HC HGV HT8 HB9 HT HH HLD
        go_upto_region 26 with fail
        cases bd with
        | true =>
          obtain ⟨ra, hr, _⟩ := HR9.out.at_
          have c1 : w10.cell? ⟨rb, 1, none⟩ = some (.bool true) := cell_row hr rfl
          clear hr
          go_wp2_with fail
          go_ret
          exact HFIN.out false rfl
        | false =>
          cases us with
          | nil =>
            obtain ⟨ra, hr⟩ := HR9.out.nil
            have c1 : w10.cell? ⟨rb, 1, none⟩ = some (.bool false) := cell_row hr rfl
            have c0 : w10.cell? ⟨rb, 0, none⟩ = some (.slice ra 0 0) := cell_row hr rfl
            clear hr
            go_wp2_with fail
            go_ret
            exact HFIN.out true rfl
          | cons q0 r0 =>
            obtain ⟨o0, hr, _, _, _⟩ := HR9.out.head
            have hl0 : r0.length + 1 ≤ 1000000 := by have := HR9.out.left; simpa using this
            have c1 : w10.cell? ⟨rb, 1, none⟩ = some (.bool false) := cell_row hr rfl
            have c0 : w10.cell? ⟨rb, 0, none⟩ = some (.slice (some ⟨sb, o0, none⟩) (r0.length + 1) (r0.length + 1)) := cell_row hr rfl
            have t0 : ((r0.length : Int) + 1 == 0) = false := beq_eq_false_iff_ne.2 (by omega)
            clear hr
            go_wp2_with fail
            go_ret
            exact HFIN.out false rfl
      · have tq0 : (q0.toList == [97, 112, 112, 114, 111, 97, 99, 104]) = false := beq_eq_false_iff_ne.2 (fun e => hq0 (data_inj (s := { data := #[97, 112, 112, 114, 111, 97, 99, 104] }) (by rw [e, ByteArray.toList_eq])))
        replace HC : Hid (RC = endC1 (sg : Int) tr ps (-1) (wordS us1 bd (bytesOf wHo))) := by rw [hus]; exact HC.out.trans (apC_miss _ _ _ hq0)
        rw [← hus] at HL
        clear hus hr hq0
        obtain ⟨us, rfl⟩ : ∃ x, x = us1 := ⟨_, rfl⟩
        go_upto_region 12 with fail
        clear d0
        have KAP : Hid (i64ok (-1 : Int)) := ⟨by omega, by omega⟩
        obtain ⟨ap, hap⟩ : ∃ ap : Int, ap = (-1 : Int) := ⟨_, rfl⟩
        rw [← hap] at KAP HL HC
        clear hap
        go_wp2_with fail
        refine (HL.out.word (bytesOf wHo)).mono ?_
        rintro e w9 ⟨rfl, hl, ho⟩
        replace HL := Lib.hid hl
        replace O1 := Lib.hid (own_rb O1.out ho HRL.out)
        replace O2 := Lib.hid (own_rb O2.out ho HRL.out)
        clear hl ho
        generalize wordS us bd (bytesOf wHo) = x0 at *
        obtain ⟨us', bd'⟩ := x0
        replace HC : Hid (RC = endC2 (sg : Int) tr ps ap (numS2 us' bd')) := HC.out
        clear us bd
        obtain ⟨us, rfl⟩ : ∃ x, x = us' := ⟨_, rfl⟩
        obtain ⟨bd, rfl⟩ : ∃ x, x = bd' := ⟨_, rfl⟩
        obtain ⟨w3, rfl⟩ : ∃ x, x = w9 := ⟨_, rfl⟩
        go_wp2_with fail
        refine (HL.out.num).mono ?_
        rintro e w9 ⟨rfl, hl, ho⟩
        replace HL := Lib.hid hl
        replace O1 := Lib.hid (own_rb O1.out ho HRL.out)
        replace O2 := Lib.hid (own_rb O2.out ho HRL.out)
        clear hl ho
        have hlt_hd := numS2_lt us bd
        generalize numS2 us bd = x0 at *
        obtain ⟨hd, us', bd'⟩ := x0
        replace HC : Hid (RC = endC3 (sg : Int) tr ps ap hd (wordS us' bd' (bytesOf wCo))) := HC.out
        have hlt_hd : hd < 100000 := hlt_hd
        clear us bd
        obtain ⟨us, rfl⟩ : ∃ x, x = us' := ⟨_, rfl⟩
        obtain ⟨bd, rfl⟩ : ∃ x, x = bd' := ⟨_, rfl⟩
        have cc := cell_row (j := 5) HL.out.box rfl
        have ff : w9.frozen? ⟨bx, 5, none⟩ = false := frozen_of_row _ _ _ _ _ HL.out.box
        replace HL : Hid (LS sb rb bx all us bd #[.int .i64 (sg : Int), .slice a1 tr.length c1, .slice a2 ps.length c2, .int .i64 ap, .slice none 0 0, .int .u16 (IntKind.u16.wrap (hd : Int))] w (w9.setCell ⟨bx, 5, none⟩ (.int .u16 (IntKind.u16.wrap (hd : Int))))) := HL.out.set 5 (.int .u16 (IntKind.u16.wrap (hd : Int)))
        replace O1 := Lib.hid (own_bx (i := 5) (x := .int .u16 (IntKind.u16.wrap (hd : Int))) O1.out HBL.out)
        replace O2 := Lib.hid (own_bx (i := 5) (x := .int .u16 (IntKind.u16.wrap (hd : Int))) O2.out HBL.out)
        go_upto_region 14 with fail
        clear cc ff
        generalize w9.setCell ⟨bx, 5, none⟩ (.int .u16 (IntKind.u16.wrap (hd : Int))) = w3 at *
        have hhm : IntKind.u16.wrap (hd : Int) = ((hd % 65536 : Nat) : Int) := by
          have e : IntKind.u16.wrap (hd : Int) = (hd : Int) % 65536 := rfl
          rw [e]; omega
        rw [hhm] at HL
        clear hhm
        go_wp2_with fail
        refine (HL.out.word (bytesOf wCo)).mono ?_
        rintro e w9 ⟨rfl, hl, ho⟩
        replace HL := Lib.hid hl
        replace O1 := Lib.hid (own_rb O1.out ho HRL.out)
        replace O2 := Lib.hid (own_rb O2.out ho HRL.out)
        clear hl ho
        generalize wordS us bd (bytesOf wCo) = x0 at *
        obtain ⟨us', bd'⟩ := x0
        replace HC : Hid (RC = endD (sg : Int) tr ps ap hd (allS [] digF us' bd')) := HC.out
        clear us bd
        obtain ⟨us, rfl⟩ : ∃ x, x = us' := ⟨_, rfl⟩
        obtain ⟨bd, rfl⟩ : ∃ x, x = bd' := ⟨_, rfl⟩
        obtain ⟨w3, rfl⟩ : ∃ x, x = w9 := ⟨_, rfl⟩
        go_wp2_with fail
        refine (HL.out.allZ).mono ?_
        rintro e w9 ⟨⟨v4, rfl, ho4⟩, hl, ho⟩
        obtain ⟨a4, c4, rfl⟩ := own_sl ho4
        have O4 : Hid (w9.ownsRow (bx + 1) 3 1 (.slice a4 (allS [] digF us bd).1.length c4) (allS [] digF us bd).1.length (intsV (allS [] digF us bd).1)) := own_base ho4 (heap_lt HL.out.box)
        have K4 : Hid (∀ x ∈ (allS [] digF us bd).1, i64ok x) := digF_ok _ _ _
        replace O1 := Lib.hid (own_rb O1.out ho HRL.out)
        replace O2 := Lib.hid (own_rb O2.out ho HRL.out)
        replace HL := Lib.hid hl
        clear hl ho ho4
        generalize allS [] digF us bd = x0 at *
        obtain ⟨co, us', bd'⟩ := x0
        replace HC : Hid (RC = (⟨(sg : Int), tr, ps, ap, co, hd % 65536⟩, okC bd' us')) := HC.out
        clear us bd
        obtain ⟨us, rfl⟩ : ∃ x, x = us' := ⟨_, rfl⟩
        obtain ⟨bd, rfl⟩ : ∃ x, x = bd' := ⟨_, rfl⟩
        replace O4 : Hid (w9.ownsRow (bx + 1) 3 1 (.slice a4 co.length c4) co.length (intsV co)) := O4.out
        replace K4 : Hid (∀ x ∈ co, i64ok x) := K4.out
        replace O4 := Lib.hid (own_bx (i := 4) (x := .slice a4 co.length c4) O4.out HBL.out)
        have cc := cell_row (j := 4) HL.out.box rfl
        have ff : w9.frozen? ⟨bx, 4, none⟩ = false := frozen_of_row _ _ _ _ _ HL.out.box
        replace HL : Hid (LS sb rb bx all us bd #[.int .i64 (sg : Int), .slice a1 tr.length c1, .slice a2 ps.length c2, .int .i64 ap, .slice a4 co.length c4, .int .u16 ((hd % 65536 : Nat) : Int)] w (w9.setCell ⟨bx, 4, none⟩ (.slice a4 co.length c4))) := HL.out.set 4 (.slice a4 co.length c4)
        replace O1 := Lib.hid (own_bx (i := 4) (x := .slice a4 co.length c4) O1.out HBL.out)
        replace O2 := Lib.hid (own_bx (i := 4) (x := .slice a4 co.length c4) O2.out HBL.out)
        go_upto_region 16 with fail
        clear cc ff
        generalize w9.setCell ⟨bx, 4, none⟩ (.slice a4 co.length c4) = w3 at *
        have hm16 : hd % 65536 < 65536 := Nat.mod_lt _ (by omega)
        generalize hd % 65536 = hm at *
        obtain ⟨vp, vr, zs, h1, h2, h3, h4, h5⟩ := HT.out.at_
        obtain ⟨ra, rc, rfl⟩ := own_sl h3
        have KR : Hid (∀ k, (Value.slice ra zs.length rc).ownBlock = some k → k < sb) := fun k hk => by rw [HSB.out]; exact (h3.lt k hk).2
        have HBW : Hid (Below w.heap.size w w3.drew) := by rw [← HSB.out]; exact HL.out.drew.bel
        have HKD : Hid (w3.drew.heap[tb]? = some (.cells #[.int .i64 T.tracks, vp, .int .i64 T.sigs, .slice ra zs.length rc] 25 (0, 0))) := tb_kept h1 HBW.out
        have HTD : Hid (TM C tb T w3.drew) := HT.out.old HBW.out
        have H2D := Lib.hid (own_old h2 HBW.out); have H3D := Lib.hid (own_old h3 HBW.out)
        have H5D : Hid (∀ z ∈ zs, ZOk C w3.drew z) := fun z hz => (h5 z hz).old HBW.out
        have H4D := Lib.hid h4
        have HLD := Lib.hid HL.out.drew
        have O1D := Lib.hid (own_drew O1.out); have O2D := Lib.hid (own_drew O2.out); have O4D := Lib.hid (own_drew O4.out)
        have hzm : zs.length ≤ 1000000 := by rw [h4, List.length_map] at hp; exact hp
        clear h1 h2 h3 h4 h5 O1 O2 O4
        refine wp_region_T (BoxS tb bx (.slice ra zs.length rc) (.int .i64 (sg : Int)) (.slice a1 tr.length c1) (.slice a2 ps.length c2) (.int .i64 ap) (.slice a4 co.length c4) (.int .u16 (hm : Int))) [10] (by kernel_rfl) ?_
        change wpAnyT _ _ _ _ _ _ _ _ _ (World.drew _)
        generalize w3.drew = wd at *
        clear HL HBW
        have KB : Hid (∀ V : World, V.heap[tb]? = some (.cells #[.int .i64 T.tracks, vp, .int .i64 T.sigs, .slice ra zs.length rc] 25 (0, 0)) → V.heap[bx]? = some (.cells #[.int .i64 (sg : Int), .slice a1 tr.length c1, .slice a2 ps.length c2, .int .i64 ap, .slice a4 co.length c4, .int .u16 (hm : Int)] 30 (0, 0)) → BoxS tb bx (.slice ra zs.length rc) (.int .i64 (sg : Int)) (.slice a1 tr.length c1) (.slice a2 ps.length c2) (.int .i64 ap) (.slice a4 co.length c4) (.int .u16 (hm : Int)) V) := fun V h h' => ⟨cell_row h rfl, cell_row h' rfl, cell_row h' rfl, cell_row h' rfl, cell_row h' rfl, cell_row h' rfl, cell_row h' rfl⟩
        have KS : Hid (∀ V : World, BoxS tb bx (.slice ra zs.length rc) (.int .i64 (sg : Int)) (.slice a1 tr.length c1) (.slice a2 ps.length c2) (.int .i64 ap) (.slice a4 co.length c4) (.int .u16 (hm : Int)) V → (V.cell? ⟨tb, 3, none⟩ = some (.slice ra zs.length rc) ∧ V.cell? ⟨bx, 0, none⟩ = some (.int .i64 (sg : Int)) ∧ V.cell? ⟨bx, 1, none⟩ = some (.slice a1 tr.length c1) ∧ V.cell? ⟨bx, 2, none⟩ = some (.slice a2 ps.length c2) ∧ V.cell? ⟨bx, 3, none⟩ = some (.int .i64 ap) ∧ V.cell? ⟨bx, 4, none⟩ = some (.slice a4 co.length c4) ∧ V.cell? ⟨bx, 5, none⟩ = some (.int .u16 (hm : Int)))) := fun V h => h
        have S1 := KB.out _ HKD.out HLD.out.box
        refine wpAnyT_pure (i := 0) (v := ?_) rfl (by kernel_rfl) (by kernel_rfl) (by kernel_rfl) (by kernel_rfl) (fun _ _ _ h => h) (Or.inl ⟨by kernel_rfl, ?_⟩) (fun _ => by assumption) ?_
        rotate_left
        · intro V hV; clear hV; go_simp; try (with_reducible rfl)
        try simp only [Act.put, List.getElem_toArray, List.getElem_cons_succ, List.getElem_cons_zero, List.setIfInBounds_toArray, List.set_cons_zero, List.set_cons_succ]
        refine wpAnyT_pure (i := 1) (v := ?_) rfl (by kernel_rfl) (by kernel_rfl) (by kernel_rfl) (by kernel_rfl) (fun _ _ _ h => h) (Or.inl ⟨by kernel_rfl, ?_⟩) (fun _ => by assumption) ?_
        rotate_left
        · intro V hV; clear hV; go_simp; try (with_reducible rfl)
        try simp only [Act.put, List.getElem_toArray, List.getElem_cons_succ, List.getElem_cons_zero, List.setIfInBounds_toArray, List.set_cons_zero, List.set_cons_succ]
        refine wpAnyT_pure (i := 2) (v := ?_) rfl (by kernel_rfl) (by kernel_rfl) (by kernel_rfl) (by kernel_rfl) (fun _ _ _ h => h) (Or.inl ⟨by kernel_rfl, ?_⟩) (fun _ => by assumption) ?_
        rotate_left
        · intro V hV; clear hV; go_simp; try (with_reducible rfl)
        try simp only [Act.put, List.getElem_toArray, List.getElem_cons_succ, List.getElem_cons_zero, List.setIfInBounds_toArray, List.set_cons_zero, List.set_cons_succ]
        refine wpAnyT_pure (i := 3) (v := ?_) rfl (by kernel_rfl) (by kernel_rfl) (by kernel_rfl) (by kernel_rfl) (fun _ _ _ h => h) (Or.inl ⟨by kernel_rfl, ?_⟩) (fun _ => by assumption) ?_
        rotate_left
        · intro V hV; clear hV; go_simp; try (with_reducible rfl)
        try simp only [Act.put, List.getElem_toArray, List.getElem_cons_succ, List.getElem_cons_zero, List.setIfInBounds_toArray, List.set_cons_zero, List.set_cons_succ]
        refine wpAnyT_take (i := 4) (v := ?_) rfl (by kernel_rfl) (by kernel_rfl) (by kernel_rfl) (by kernel_rfl) (fun _ _ _ h => h) (Or.inl ⟨by kernel_rfl, ?_⟩) (by assumption) ?_
        rotate_left
        · intro V hV; have k := KS.out V hV; clear hV; go_simp; try (with_reducible rfl)
        try simp only [Act.put, List.getElem_toArray, List.getElem_cons_succ, List.getElem_cons_zero, List.setIfInBounds_toArray, List.set_cons_zero, List.set_cons_succ]
        refine wpAnyT_take (i := 5) (v := ?_) rfl (by kernel_rfl) (by kernel_rfl) (by kernel_rfl) (by kernel_rfl) (fun _ _ _ h => h) (Or.inl ⟨by kernel_rfl, ?_⟩) (by assumption) ?_
        rotate_left
        · intro V hV; have k := KS.out V hV; clear hV; go_simp; try (with_reducible rfl)
        try simp only [Act.put, List.getElem_toArray, List.getElem_cons_succ, List.getElem_cons_zero, List.setIfInBounds_toArray, List.set_cons_zero, List.set_cons_succ]
        refine wpAnyT_one (i := 6) (by kernel_rfl) rfl (fun K hK => ?_)
        go_simp
        have HKA : Hid ((wd.alloc (.cells #[.int .i64 (sg : Int), .slice a1 tr.length c1, .slice a2 ps.length c2, .int .i64 ap, .slice a4 co.length c4, .int .u16 (hm : Int)] 30)).heap[tb]? = some (.cells #[.int .i64 T.tracks, vp, .int .i64 T.sigs, .slice ra zs.length rc] 25 (0, 0))) := tb_kept HKD.out (tb_alloc_below _ _)
        have HBA : Hid ((wd.alloc (.cells #[.int .i64 (sg : Int), .slice a1 tr.length c1, .slice a2 ps.length c2, .int .i64 ap, .slice a4 co.length c4, .int .u16 (hm : Int)] 30)).heap[bx]? = some (.cells #[.int .i64 (sg : Int), .slice a1 tr.length c1, .slice a2 ps.length c2, .int .i64 ap, .slice a4 co.length c4, .int .u16 (hm : Int)] 30 (0, 0))) := tb_kept HLD.out.box (tb_alloc_below _ _)
        refine hK.out _ _ (fun _ => KB.out _ HKA.out HBA.out) ?_
        clear hK K S1
        try simp only [Act.put, List.getElem_toArray, List.getElem_cons_succ, List.getElem_cons_zero, List.setIfInBounds_toArray, List.set_cons_zero, List.set_cons_succ]
        have HOA := Lib.hid (H3D.out.alloc (.cells #[.int .i64 (sg : Int), .slice a1 tr.length c1, .slice a2 ps.length c2, .int .i64 ap, .slice a4 co.length c4, .int .u16 (hm : Int)] 30))
        have HCW : Hid (C ≤ wd.heap.size) := by have := HC0.out; have := HLD.out.wz; have := HLD.out.bel.size; show _ ≤ _; omega
        refine wpAnyT_one (i := 7) (by kernel_rfl) rfl (fun K hK => ?_)
        refine step_append_lies _ (by rfl) _ _ _ (by rfl) C 30 i0 (.agg #[.int .i64 0, .slice none 0 0, .slice none 0 0, .int .i64 0, .slice none 0 0, .int .u16 0]) 6 96 Tryz.underlying23 HIn.out HZ0.out HZ1.out HZ2.out rfl (by omega) _ zs.length (zs.flatMap zC) (by rfl) HOA.out ⟨wd.heap.size, 0, none⟩ 1 1 [.int .i64 (sg : Int), .slice a1 tr.length c1, .slice a2 ps.length c2, .int .i64 ap, .slice a4 co.length c4, .int .u16 (hm : Int)] (by rfl) (by rfl) (World.news_of_block (heap_alloc_new wd _)) (by simp [Value.oneCell']) (by omega) (by unfold maxLen; omega) (by omega) (by have := HCW.out; simp; omega) (wd.heap.size + 1) (by simp) ?_
        intro gg cap w8 hown8 hgrow hat hlt8
        have hOn := grown_only hgrow
        have h8 : w8.heap[tb]? = some (.cells #[.int .i64 T.tracks, vp, .int .i64 T.sigs, .slice ra zs.length rc] 25 (0, 0)) := (hOn.block tb (heap_lt HKD.out) (fun e => own_ne H3D.out HKD.out (by decide) tb e.symm rfl)).trans HKD.out
        have hb8 : w8.heap[bx]? = some (.cells #[.int .i64 (sg : Int), .slice a1 tr.length c1, .slice a2 ps.length c2, .int .i64 ap, .slice a4 co.length c4, .int .u16 (hm : Int)] 30 (0, 0)) := (hOn.block bx (heap_lt HLD.out.box) (fun e => by have := KR.out bx e.symm; have := HLD.out.o1; have := HLD.out.o2; omega)).trans HLD.out.box
        have HR8 : Hid (RdAt rb sb all us bd w8) := by
          obtain ⟨qa, k1, k2⟩ := HLD.out.rd.at_
          exact HLD.out.rd.put ((hOn.block rb (heap_lt k1) (fun e => own_ne H3D.out k1 (by decide) rb e.symm rfl)).trans k1) (hOn.block sb (heap_lt HLD.out.rd.row) (fun e => own_ne H3D.out HLD.out.rd.row (by decide) sb e.symm rfl)) k2
        have HB8 : Hid (Below C w w8) := (HLD.out.bel.mono HC0.out).trans (hOn.below HCW.out (fun i hi e => by have := (H3D.out.lt i e.symm).1; omega))
        have hCb : C ≤ bx + 1 := by have := HC0.out; have := HLD.out.o1; have := HLD.out.o2; omega
        have hz : ZOk C wd (⟨(sg : Int), tr, ps, ap, co, hm⟩, .slice a1 tr.length c1, .slice a2 ps.length c2, .slice a4 co.length c4) := ⟨own_base O1D.out hCb, own_base O2D.out hCb, own_base O4D.out hCb, ⟨by show _ ≤ (sg : Int); omega, by show (sg : Int) ≤ _; omega⟩, KAP.out, hm16, K1.out, K2.out, K4.out⟩
        have HT8 := Lib.hid (HTD.out.addRt HKD.out H2D.out H3D.out H4D.out H5D.out hgrow (z := (⟨(sg : Int), tr, ps, ap, co, hm⟩, .slice a1 tr.length c1, .slice a2 ps.length c2, .slice a4 co.length c4)) (by rw [List.length_append, List.flatMap_append]; exact hown8) hz)
        have e1 : w8.cell? ⟨tb, 3, none⟩ = some (.slice ra zs.length rc) := cell_row h8 rfl
        have g1 : w8.frozen? ⟨tb, 3, none⟩ = false := frozen_of_row _ _ _ _ _ h8
        have S3 := KB.out _ h8 hb8
        refine hK.out _ _ (fun _ => S3) ?_
        clear hK K hown8 hgrow hat hlt8 hOn h8 hb8 HOA HKA HBA hz hCb HTD H2D H3D H4D H5D O1D O2D O4D HKD
        try simp only [Act.put, List.getElem_toArray, List.getElem_cons_succ, List.getElem_cons_zero, List.setIfInBounds_toArray, List.set_cons_zero, List.set_cons_succ]
        refine wpAnyT_pure (i := 8) (v := ?_) rfl (by kernel_rfl) (by kernel_rfl) (by kernel_rfl) (by kernel_rfl) (fun _ _ _ h => h) (Or.inl ⟨by kernel_rfl, ?_⟩) (fun _ => by assumption) ?_
        rotate_left
        · intro V hV; clear hV; go_simp; try (with_reducible rfl)
        try simp only [Act.put, List.getElem_toArray, List.getElem_cons_succ, List.getElem_cons_zero, List.setIfInBounds_toArray, List.set_cons_zero, List.set_cons_succ]
        refine wpAnyT_pure (i := 9) (v := ?_) rfl (by kernel_rfl) (by kernel_rfl) (by kernel_rfl) (by kernel_rfl) (fun _ _ _ h => h) (Or.inl ⟨by kernel_rfl, ?_⟩) (fun _ => by assumption) ?_
        rotate_left
        · intro V hV; clear hV; go_simp; try (with_reducible rfl)
        try simp only [Act.put, List.getElem_toArray, List.getElem_cons_succ, List.getElem_cons_zero, List.setIfInBounds_toArray, List.set_cons_zero, List.set_cons_succ]
        refine wpAnyT_one (i := 10) (by kernel_rfl) rfl (fun K hK => ?_)
        go_simp
        clear S3
        refine hK.out _ _ (fun h => absurd (show false = true from h) (by decide)) ?_
        clear hK K
        try simp only [Act.put, List.getElem_toArray, List.getElem_cons_succ, List.getElem_cons_zero, List.setIfInBounds_toArray, List.set_cons_zero, List.set_cons_succ]
        refine wpAnyT_done (by kernel_rfl) ?_ _
        have HR9 := Lib.hid (HR8.out.other (tb := tb) (i := 3) (x := .slice (some ⟨gg, 0, none⟩) (zs.length + 1) cap) (by have := HTZ.out; have := HLD.out.o1; omega) (by have := HTZ.out; omega))
        have HB9 : Hid (Below C w (w8.setCell ⟨tb, 3, none⟩ (.slice (some ⟨gg, 0, none⟩) (zs.length + 1) cap))) := HB8.out.setCell (p := ⟨tb, 3, none⟩) HT.out.low _
        clear HR8 HB8 e1 g1 KS KB
        generalize w8.setCell ⟨tb, 3, none⟩ (.slice (some ⟨gg, 0, none⟩) (zs.length + 1) cap) = w10 at *
        have HST : Hid (stepT T n s.data.toList = if okC bd us = true then some { T with rts := T.rts ++ [⟨(sg : Int), tr, ps, ap, co, hm⟩] } else none) := by
          show _ = _
          rw [step_route hn HH.out]
          have h := HGV.out
          rw [HC.out] at h
          rw [show rtT (partL 32 s.data.toList) = if okC bd us = true then some ⟨(sg : Int), tr, ps, ap, co, hm⟩ else none from h]
          cases okC bd us <;> rfl
        have HFIN : Hid (∀ ok, ok = okC bd us → LineP C tb T n s.data.toList w (.returned (.bool ok)) w10) := fun ok hok => by
          refine ⟨⟨ok, rfl, fun T' h => ?_, fun h => ?_⟩, HB9.out⟩
          · rw [HST.out] at h
            subst hok
            cases hb : okC bd us with
            | true => rw [hb] at h; obtain rfl := Option.some.inj h; exact ⟨rfl, HT8.out⟩
            | false => rw [hb] at h; cases h
          · rw [HST.out] at h
            subst hok
            cases hb : okC bd us with
            | true => rw [hb] at h; cases h
            | false => rfl
        clear HST HC HGV HT8 HB9 HT HH HLD
        go_upto_region 26 with fail
        cases bd with
        | true =>
          obtain ⟨ra, hr, _⟩ := HR9.out.at_
          have c1 : w10.cell? ⟨rb, 1, none⟩ = some (.bool true) := cell_row hr rfl
          clear hr
          go_wp2_with fail
          go_ret
          exact HFIN.out false rfl
        | false =>
          cases us with
          | nil =>
            obtain ⟨ra, hr⟩ := HR9.out.nil
            have c1 : w10.cell? ⟨rb, 1, none⟩ = some (.bool false) := cell_row hr rfl
            have c0 : w10.cell? ⟨rb, 0, none⟩ = some (.slice ra 0 0) := cell_row hr rfl
            clear hr
            go_wp2_with fail
            go_ret
            exact HFIN.out true rfl
          | cons q0 r0 =>
            obtain ⟨o0, hr, _, _, _⟩ := HR9.out.head
            have hl0 : r0.length + 1 ≤ 1000000 := by have := HR9.out.left; simpa using this
            have c1 : w10.cell? ⟨rb, 1, none⟩ = some (.bool false) := cell_row hr rfl
            have c0 : w10.cell? ⟨rb, 0, none⟩ = some (.slice (some ⟨sb, o0, none⟩) (r0.length + 1) (r0.length + 1)) := cell_row hr rfl
            have t0 : ((r0.length : Int) + 1 == 0) = false := beq_eq_false_iff_ne.2 (by omega)
            clear hr
            go_wp2_with fail
            go_ret
            exact HFIN.out false rfl
  · have tq : (q.toList == [112, 111, 105, 110, 116]) = false := beq_eq_false_iff_ne.2 (fun e => hq (data_inj (s := { data := #[112, 111, 105, 110, 116] }) (by rw [e, ByteArray.toList_eq])))
    clear hq HHD
    go_upto_region 3 with fail
    have HL : Hid (LS sb rb w2.heap.size all all false #[.int .i64 0, .slice none 0 0, .slice none 0 0, .int .i64 (-1), .slice none 0 0, .int .u16 0] w (w2.alloc (.cells #[.int .i64 0, .slice none 0 0, .slice none 0 0, .int .i64 (-1), .slice none 0 0, .int .u16 0] 30))) :=
      ⟨HR2.out.kept (tb_alloc_below _ _), HB2.out.trans ((tb_alloc_below _ _).mono (by have := HB2.out.size; have := HSB.out; omega)), heap_alloc_new _ _, HRB.out, HR2.out.lt, by have := HSB.out; omega⟩
    obtain ⟨bx, hbx⟩ : ∃ b, b = w2.heap.size := ⟨_, rfl⟩
    rw [← hbx] at HL ⊢
    clear hbx
    generalize w2.alloc (.cells #[.int .i64 0, .slice none 0 0, .slice none 0 0, .int .i64 (-1), .slice none 0 0, .int .u16 0] 30) = w3 at *
    have HRL : Hid (rb < bx + 1) := by have := HL.out.o2; show _ < _; omega
    have HBL : Hid (bx < bx + 1) := Nat.lt_succ_self _
    clear cz d0 x0 hsl HR2 HB2
    obtain ⟨us, hus⟩ : ∃ us, us = all := ⟨_, rfl⟩
    obtain ⟨bd, hbd⟩ : ∃ bd, bd = false := ⟨_, rfl⟩
    have HL : Hid (LS sb rb bx all us bd #[.int .i64 0, .slice none 0 0, .slice none 0 0, .int .i64 (-1), .slice none 0 0, .int .u16 0] w w3) := by rw [hus, hbd]; exact HL
    have HC : Hid (RC = rtC1 (wordS us bd (bytesOf wRo))) := by rw [hus, hbd]; exact HC
    clear hus hbd
    go_wp2_with fail
    refine (HL.out.word (bytesOf wRo)).mono ?_
    rintro e w9 ⟨rfl, hl, ho⟩
    replace HL := Lib.hid hl
    skip
    clear hl ho
    generalize wordS us bd (bytesOf wRo) = x0 at *
    obtain ⟨us', bd'⟩ := x0
    replace HC : Hid (RC = rtC2 (numS2 us' bd')) := HC.out
    clear us bd
    obtain ⟨us, rfl⟩ : ∃ x, x = us' := ⟨_, rfl⟩
    obtain ⟨bd, rfl⟩ : ∃ x, x = bd' := ⟨_, rfl⟩
    obtain ⟨w3, rfl⟩ : ∃ x, x = w9 := ⟨_, rfl⟩
    go_wp2_with fail
    refine (HL.out.num).mono ?_
    rintro e w9 ⟨rfl, hl, ho⟩
    replace HL := Lib.hid hl
    skip
    clear hl ho
    have hlt_sg := numS2_lt us bd
    generalize numS2 us bd = x0 at *
    obtain ⟨sg, us', bd'⟩ := x0
    replace HC : Hid (RC = trC1 (sg : Int) (wordS us' bd' (bytesOf wTr))) := HC.out
    have hlt_sg : sg < 100000 := hlt_sg
    clear us bd
    obtain ⟨us, rfl⟩ : ∃ x, x = us' := ⟨_, rfl⟩
    obtain ⟨bd, rfl⟩ : ∃ x, x = bd' := ⟨_, rfl⟩
    have cc := cell_row (j := 0) HL.out.box rfl
    have ff : w9.frozen? ⟨bx, 0, none⟩ = false := frozen_of_row _ _ _ _ _ HL.out.box
    replace HL : Hid (LS sb rb bx all us bd #[.int .i64 (sg : Int), .slice none 0 0, .slice none 0 0, .int .i64 (-1), .slice none 0 0, .int .u16 0] w (w9.setCell ⟨bx, 0, none⟩ (.int .i64 (sg : Int)))) := HL.out.set 0 (.int .i64 (sg : Int))
    skip
    go_upto_region 5 with fail
    clear cc ff
    generalize w9.setCell ⟨bx, 0, none⟩ (.int .i64 (sg : Int)) = w3 at *
    go_wp2_with fail
    refine (HL.out.word (bytesOf wTr)).mono ?_
    rintro e w9 ⟨rfl, hl, ho⟩
    replace HL := Lib.hid hl
    skip
    clear hl ho
    generalize wordS us bd (bytesOf wTr) = x0 at *
    obtain ⟨us', bd'⟩ := x0
    replace HC : Hid (RC = trC2 (sg : Int) (allS [(bytesOf wPs)] digF us' bd')) := HC.out
    clear us bd
    obtain ⟨us, rfl⟩ : ∃ x, x = us' := ⟨_, rfl⟩
    obtain ⟨bd, rfl⟩ : ∃ x, x = bd' := ⟨_, rfl⟩
    obtain ⟨w3, rfl⟩ : ∃ x, x = w9 := ⟨_, rfl⟩
    go_wp2_with fail
    refine (HL.out.allI (bytesOf wPs)).mono ?_
    rintro e w9 ⟨⟨v1, rfl, ho1⟩, hl, ho⟩
    obtain ⟨a1, c1, rfl⟩ := own_sl ho1
    have O1 : Hid (w9.ownsRow (bx + 1) 3 1 (.slice a1 (allS [bytesOf wPs] digF us bd).1.length c1) (allS [bytesOf wPs] digF us bd).1.length (intsV (allS [bytesOf wPs] digF us bd).1)) := own_base ho1 (heap_lt HL.out.box)
    have K1 : Hid (∀ x ∈ (allS [bytesOf wPs] digF us bd).1, i64ok x) := digF_ok _ _ _
    replace HL := Lib.hid hl
    clear hl ho ho1
    generalize allS [bytesOf wPs] digF us bd = x0 at *
    obtain ⟨tr, us', bd'⟩ := x0
    replace HC : Hid (RC = ptC1 (sg : Int) tr (wordS us' bd' (bytesOf wPs))) := HC.out
    clear us bd
    obtain ⟨us, rfl⟩ : ∃ x, x = us' := ⟨_, rfl⟩
    obtain ⟨bd, rfl⟩ : ∃ x, x = bd' := ⟨_, rfl⟩
    replace O1 : Hid (w9.ownsRow (bx + 1) 3 1 (.slice a1 tr.length c1) tr.length (intsV tr)) := O1.out
    replace K1 : Hid (∀ x ∈ tr, i64ok x) := K1.out
    have cc := cell_row (j := 1) HL.out.box rfl
    have ff : w9.frozen? ⟨bx, 1, none⟩ = false := frozen_of_row _ _ _ _ _ HL.out.box
    replace HL : Hid (LS sb rb bx all us bd #[.int .i64 (sg : Int), .slice a1 tr.length c1, .slice none 0 0, .int .i64 (-1), .slice none 0 0, .int .u16 0] w (w9.setCell ⟨bx, 1, none⟩ (.slice a1 tr.length c1))) := HL.out.set 1 (.slice a1 tr.length c1)
    replace O1 := Lib.hid (own_bx (i := 1) (x := .slice a1 tr.length c1) O1.out HBL.out)
    go_upto_region 7 with fail
    clear cc ff
    generalize w9.setCell ⟨bx, 1, none⟩ (.slice a1 tr.length c1) = w3 at *
    go_wp2_with fail
    refine (HL.out.word (bytesOf wPs)).mono ?_
    rintro e w9 ⟨rfl, hl, ho⟩
    replace HL := Lib.hid hl
    replace O1 := Lib.hid (own_rb O1.out ho HRL.out)
    clear hl ho
    generalize wordS us bd (bytesOf wPs) = x0 at *
    obtain ⟨us', bd'⟩ := x0
    replace HC : Hid (RC = ptC2 (sg : Int) tr (allS [bytesOf wAp, bytesOf wHo] ptF us' bd')) := HC.out
    clear us bd
    obtain ⟨us, rfl⟩ : ∃ x, x = us' := ⟨_, rfl⟩
    obtain ⟨bd, rfl⟩ : ∃ x, x = bd' := ⟨_, rfl⟩
    obtain ⟨w3, rfl⟩ : ∃ x, x = w9 := ⟨_, rfl⟩
    go_wp2_with fail
    refine (HL.out.allP (bytesOf wAp) (bytesOf wHo)).mono ?_
    rintro e w9 ⟨⟨v2, rfl, ho2⟩, hk2, hl, ho⟩
    obtain ⟨a2, c2, rfl⟩ := own_sl ho2
    have O2 : Hid (w9.ownsRow (bx + 1) 57 2 (.slice a2 (allS [bytesOf wAp, bytesOf wHo] ptF us bd).1.length c2) (allS [bytesOf wAp, bytesOf wHo] ptF us bd).1.length (ptsC (allS [bytesOf wAp, bytesOf wHo] ptF us bd).1)) := own_base ho2 (heap_lt HL.out.box)
    have K2 := Lib.hid hk2
    replace O1 := Lib.hid (own_rb O1.out ho HRL.out)
    replace HL := Lib.hid hl
    clear hl ho ho2 hk2
    generalize allS [bytesOf wAp, bytesOf wHo] ptF us bd = x0 at *
    obtain ⟨ps, us', bd'⟩ := x0
    replace HC : Hid (RC = apC (sg : Int) tr ps us' bd') := HC.out
    clear us bd
    obtain ⟨us, rfl⟩ : ∃ x, x = us' := ⟨_, rfl⟩
    obtain ⟨bd, rfl⟩ : ∃ x, x = bd' := ⟨_, rfl⟩
    replace O2 : Hid (w9.ownsRow (bx + 1) 57 2 (.slice a2 ps.length c2) ps.length (ptsC ps)) := O2.out
    replace K2 : Hid (∀ p ∈ ps, i64ok p.1) := K2.out
    have cc := cell_row (j := 2) HL.out.box rfl
    have ff : w9.frozen? ⟨bx, 2, none⟩ = false := frozen_of_row _ _ _ _ _ HL.out.box
    replace HL : Hid (LS sb rb bx all us bd #[.int .i64 (sg : Int), .slice a1 tr.length c1, .slice a2 ps.length c2, .int .i64 (-1), .slice none 0 0, .int .u16 0] w (w9.setCell ⟨bx, 2, none⟩ (.slice a2 ps.length c2))) := HL.out.set 2 (.slice a2 ps.length c2)
    replace O1 := Lib.hid (own_bx (i := 2) (x := .slice a2 ps.length c2) O1.out HBL.out)
    replace O2 := Lib.hid (own_bx (i := 2) (x := .slice a2 ps.length c2) O2.out HBL.out)
    go_upto_region 9 with fail
    clear cc ff
    generalize w9.setCell ⟨bx, 2, none⟩ (.slice a2 ps.length c2) = w3 at *
    obtain ⟨us1, hus⟩ : ∃ us1, us1 = us := ⟨_, rfl⟩
    cases us with
    | nil =>
      obtain ⟨ua, hr⟩ := HL.out.rd.nil
      have d0 : w3.cell? ⟨rb, 0, none⟩ = some (.slice ua 0 0) := cell_row hr rfl
      replace HC : Hid (RC = endC1 (sg : Int) tr ps (-1) (wordS us1 bd (bytesOf wHo))) := by rw [hus]; exact HC.out
      rw [← hus] at HL
      clear hus hr
      obtain ⟨us, rfl⟩ : ∃ x, x = us1 := ⟨_, rfl⟩
      go_upto_region 12 with fail
      clear d0
      have KAP : Hid (i64ok (-1 : Int)) := ⟨by omega, by omega⟩
      obtain ⟨ap, hap⟩ : ∃ ap : Int, ap = (-1 : Int) := ⟨_, rfl⟩
      rw [← hap] at KAP HL HC
      clear hap
      go_wp2_with fail
      refine (HL.out.word (bytesOf wHo)).mono ?_
      rintro e w9 ⟨rfl, hl, ho⟩
      replace HL := Lib.hid hl
      replace O1 := Lib.hid (own_rb O1.out ho HRL.out)
      replace O2 := Lib.hid (own_rb O2.out ho HRL.out)
      clear hl ho
      generalize wordS us bd (bytesOf wHo) = x0 at *
      obtain ⟨us', bd'⟩ := x0
      replace HC : Hid (RC = endC2 (sg : Int) tr ps ap (numS2 us' bd')) := HC.out
      clear us bd
      obtain ⟨us, rfl⟩ : ∃ x, x = us' := ⟨_, rfl⟩
      obtain ⟨bd, rfl⟩ : ∃ x, x = bd' := ⟨_, rfl⟩
      obtain ⟨w3, rfl⟩ : ∃ x, x = w9 := ⟨_, rfl⟩
      go_wp2_with fail
      refine (HL.out.num).mono ?_
      rintro e w9 ⟨rfl, hl, ho⟩
      replace HL := Lib.hid hl
      replace O1 := Lib.hid (own_rb O1.out ho HRL.out)
      replace O2 := Lib.hid (own_rb O2.out ho HRL.out)
      clear hl ho
      have hlt_hd := numS2_lt us bd
      generalize numS2 us bd = x0 at *
      obtain ⟨hd, us', bd'⟩ := x0
      replace HC : Hid (RC = endC3 (sg : Int) tr ps ap hd (wordS us' bd' (bytesOf wCo))) := HC.out
      have hlt_hd : hd < 100000 := hlt_hd
      clear us bd
      obtain ⟨us, rfl⟩ : ∃ x, x = us' := ⟨_, rfl⟩
      obtain ⟨bd, rfl⟩ : ∃ x, x = bd' := ⟨_, rfl⟩
      have cc := cell_row (j := 5) HL.out.box rfl
      have ff : w9.frozen? ⟨bx, 5, none⟩ = false := frozen_of_row _ _ _ _ _ HL.out.box
      replace HL : Hid (LS sb rb bx all us bd #[.int .i64 (sg : Int), .slice a1 tr.length c1, .slice a2 ps.length c2, .int .i64 ap, .slice none 0 0, .int .u16 (IntKind.u16.wrap (hd : Int))] w (w9.setCell ⟨bx, 5, none⟩ (.int .u16 (IntKind.u16.wrap (hd : Int))))) := HL.out.set 5 (.int .u16 (IntKind.u16.wrap (hd : Int)))
      replace O1 := Lib.hid (own_bx (i := 5) (x := .int .u16 (IntKind.u16.wrap (hd : Int))) O1.out HBL.out)
      replace O2 := Lib.hid (own_bx (i := 5) (x := .int .u16 (IntKind.u16.wrap (hd : Int))) O2.out HBL.out)
      go_upto_region 14 with fail
      clear cc ff
      generalize w9.setCell ⟨bx, 5, none⟩ (.int .u16 (IntKind.u16.wrap (hd : Int))) = w3 at *
      have hhm : IntKind.u16.wrap (hd : Int) = ((hd % 65536 : Nat) : Int) := by
        have e : IntKind.u16.wrap (hd : Int) = (hd : Int) % 65536 := rfl
        rw [e]; omega
      rw [hhm] at HL
      clear hhm
      go_wp2_with fail
      refine (HL.out.word (bytesOf wCo)).mono ?_
      rintro e w9 ⟨rfl, hl, ho⟩
      replace HL := Lib.hid hl
      replace O1 := Lib.hid (own_rb O1.out ho HRL.out)
      replace O2 := Lib.hid (own_rb O2.out ho HRL.out)
      clear hl ho
      generalize wordS us bd (bytesOf wCo) = x0 at *
      obtain ⟨us', bd'⟩ := x0
      replace HC : Hid (RC = endD (sg : Int) tr ps ap hd (allS [] digF us' bd')) := HC.out
      clear us bd
      obtain ⟨us, rfl⟩ : ∃ x, x = us' := ⟨_, rfl⟩
      obtain ⟨bd, rfl⟩ : ∃ x, x = bd' := ⟨_, rfl⟩
      obtain ⟨w3, rfl⟩ : ∃ x, x = w9 := ⟨_, rfl⟩
      go_wp2_with fail
      refine (HL.out.allZ).mono ?_
      rintro e w9 ⟨⟨v4, rfl, ho4⟩, hl, ho⟩
      obtain ⟨a4, c4, rfl⟩ := own_sl ho4
      have O4 : Hid (w9.ownsRow (bx + 1) 3 1 (.slice a4 (allS [] digF us bd).1.length c4) (allS [] digF us bd).1.length (intsV (allS [] digF us bd).1)) := own_base ho4 (heap_lt HL.out.box)
      have K4 : Hid (∀ x ∈ (allS [] digF us bd).1, i64ok x) := digF_ok _ _ _
      replace O1 := Lib.hid (own_rb O1.out ho HRL.out)
      replace O2 := Lib.hid (own_rb O2.out ho HRL.out)
      replace HL := Lib.hid hl
      clear hl ho ho4
      generalize allS [] digF us bd = x0 at *
      obtain ⟨co, us', bd'⟩ := x0
      replace HC : Hid (RC = (⟨(sg : Int), tr, ps, ap, co, hd % 65536⟩, okC bd' us')) := HC.out
      clear us bd
      obtain ⟨us, rfl⟩ : ∃ x, x = us' := ⟨_, rfl⟩
      obtain ⟨bd, rfl⟩ : ∃ x, x = bd' := ⟨_, rfl⟩
      replace O4 : Hid (w9.ownsRow (bx + 1) 3 1 (.slice a4 co.length c4) co.length (intsV co)) := O4.out
      replace K4 : Hid (∀ x ∈ co, i64ok x) := K4.out
      replace O4 := Lib.hid (own_bx (i := 4) (x := .slice a4 co.length c4) O4.out HBL.out)
      have cc := cell_row (j := 4) HL.out.box rfl
      have ff : w9.frozen? ⟨bx, 4, none⟩ = false := frozen_of_row _ _ _ _ _ HL.out.box
      replace HL : Hid (LS sb rb bx all us bd #[.int .i64 (sg : Int), .slice a1 tr.length c1, .slice a2 ps.length c2, .int .i64 ap, .slice a4 co.length c4, .int .u16 ((hd % 65536 : Nat) : Int)] w (w9.setCell ⟨bx, 4, none⟩ (.slice a4 co.length c4))) := HL.out.set 4 (.slice a4 co.length c4)
      replace O1 := Lib.hid (own_bx (i := 4) (x := .slice a4 co.length c4) O1.out HBL.out)
      replace O2 := Lib.hid (own_bx (i := 4) (x := .slice a4 co.length c4) O2.out HBL.out)
      go_upto_region 16 with fail
      clear cc ff
      generalize w9.setCell ⟨bx, 4, none⟩ (.slice a4 co.length c4) = w3 at *
      have hm16 : hd % 65536 < 65536 := Nat.mod_lt _ (by omega)
      generalize hd % 65536 = hm at *
      obtain ⟨vp, vr, zs, h1, h2, h3, h4, h5⟩ := HT.out.at_
      obtain ⟨ra, rc, rfl⟩ := own_sl h3
      have KR : Hid (∀ k, (Value.slice ra zs.length rc).ownBlock = some k → k < sb) := fun k hk => by rw [HSB.out]; exact (h3.lt k hk).2
      have HBW : Hid (Below w.heap.size w w3.drew) := by rw [← HSB.out]; exact HL.out.drew.bel
      have HKD : Hid (w3.drew.heap[tb]? = some (.cells #[.int .i64 T.tracks, vp, .int .i64 T.sigs, .slice ra zs.length rc] 25 (0, 0))) := tb_kept h1 HBW.out
      have HTD : Hid (TM C tb T w3.drew) := HT.out.old HBW.out
      have H2D := Lib.hid (own_old h2 HBW.out); have H3D := Lib.hid (own_old h3 HBW.out)
      have H5D : Hid (∀ z ∈ zs, ZOk C w3.drew z) := fun z hz => (h5 z hz).old HBW.out
      have H4D := Lib.hid h4
      have HLD := Lib.hid HL.out.drew
      have O1D := Lib.hid (own_drew O1.out); have O2D := Lib.hid (own_drew O2.out); have O4D := Lib.hid (own_drew O4.out)
      have hzm : zs.length ≤ 1000000 := by rw [h4, List.length_map] at hp; exact hp
      clear h1 h2 h3 h4 h5 O1 O2 O4
      refine wp_region_T (BoxS tb bx (.slice ra zs.length rc) (.int .i64 (sg : Int)) (.slice a1 tr.length c1) (.slice a2 ps.length c2) (.int .i64 ap) (.slice a4 co.length c4) (.int .u16 (hm : Int))) [10] (by kernel_rfl) ?_
      change wpAnyT _ _ _ _ _ _ _ _ _ (World.drew _)
      generalize w3.drew = wd at *
      clear HL HBW
      have KB : Hid (∀ V : World, V.heap[tb]? = some (.cells #[.int .i64 T.tracks, vp, .int .i64 T.sigs, .slice ra zs.length rc] 25 (0, 0)) → V.heap[bx]? = some (.cells #[.int .i64 (sg : Int), .slice a1 tr.length c1, .slice a2 ps.length c2, .int .i64 ap, .slice a4 co.length c4, .int .u16 (hm : Int)] 30 (0, 0)) → BoxS tb bx (.slice ra zs.length rc) (.int .i64 (sg : Int)) (.slice a1 tr.length c1) (.slice a2 ps.length c2) (.int .i64 ap) (.slice a4 co.length c4) (.int .u16 (hm : Int)) V) := fun V h h' => ⟨cell_row h rfl, cell_row h' rfl, cell_row h' rfl, cell_row h' rfl, cell_row h' rfl, cell_row h' rfl, cell_row h' rfl⟩
      have KS : Hid (∀ V : World, BoxS tb bx (.slice ra zs.length rc) (.int .i64 (sg : Int)) (.slice a1 tr.length c1) (.slice a2 ps.length c2) (.int .i64 ap) (.slice a4 co.length c4) (.int .u16 (hm : Int)) V → (V.cell? ⟨tb, 3, none⟩ = some (.slice ra zs.length rc) ∧ V.cell? ⟨bx, 0, none⟩ = some (.int .i64 (sg : Int)) ∧ V.cell? ⟨bx, 1, none⟩ = some (.slice a1 tr.length c1) ∧ V.cell? ⟨bx, 2, none⟩ = some (.slice a2 ps.length c2) ∧ V.cell? ⟨bx, 3, none⟩ = some (.int .i64 ap) ∧ V.cell? ⟨bx, 4, none⟩ = some (.slice a4 co.length c4) ∧ V.cell? ⟨bx, 5, none⟩ = some (.int .u16 (hm : Int)))) := fun V h => h
      have S1 := KB.out _ HKD.out HLD.out.box
      refine wpAnyT_pure (i := 0) (v := ?_) rfl (by kernel_rfl) (by kernel_rfl) (by kernel_rfl) (by kernel_rfl) (fun _ _ _ h => h) (Or.inl ⟨by kernel_rfl, ?_⟩) (fun _ => by assumption) ?_
      rotate_left
      · intro V hV; clear hV; go_simp; try (with_reducible rfl)
      try simp only [Act.put, List.getElem_toArray, List.getElem_cons_succ, List.getElem_cons_zero, List.setIfInBounds_toArray, List.set_cons_zero, List.set_cons_succ]
      refine wpAnyT_pure (i := 1) (v := ?_) rfl (by kernel_rfl) (by kernel_rfl) (by kernel_rfl) (by kernel_rfl) (fun _ _ _ h => h) (Or.inl ⟨by kernel_rfl, ?_⟩) (fun _ => by assumption) ?_
      rotate_left
      · intro V hV; clear hV; go_simp; try (with_reducible rfl)
      try simp only [Act.put, List.getElem_toArray, List.getElem_cons_succ, List.getElem_cons_zero, List.setIfInBounds_toArray, List.set_cons_zero, List.set_cons_succ]
      refine wpAnyT_pure (i := 2) (v := ?_) rfl (by kernel_rfl) (by kernel_rfl) (by kernel_rfl) (by kernel_rfl) (fun _ _ _ h => h) (Or.inl ⟨by kernel_rfl, ?_⟩) (fun _ => by assumption) ?_
      rotate_left
      · intro V hV; clear hV; go_simp; try (with_reducible rfl)
      try simp only [Act.put, List.getElem_toArray, List.getElem_cons_succ, List.getElem_cons_zero, List.setIfInBounds_toArray, List.set_cons_zero, List.set_cons_succ]
      refine wpAnyT_pure (i := 3) (v := ?_) rfl (by kernel_rfl) (by kernel_rfl) (by kernel_rfl) (by kernel_rfl) (fun _ _ _ h => h) (Or.inl ⟨by kernel_rfl, ?_⟩) (fun _ => by assumption) ?_
      rotate_left
      · intro V hV; clear hV; go_simp; try (with_reducible rfl)
      try simp only [Act.put, List.getElem_toArray, List.getElem_cons_succ, List.getElem_cons_zero, List.setIfInBounds_toArray, List.set_cons_zero, List.set_cons_succ]
      refine wpAnyT_take (i := 4) (v := ?_) rfl (by kernel_rfl) (by kernel_rfl) (by kernel_rfl) (by kernel_rfl) (fun _ _ _ h => h) (Or.inl ⟨by kernel_rfl, ?_⟩) (by assumption) ?_
      rotate_left
      · intro V hV; have k := KS.out V hV; clear hV; go_simp; try (with_reducible rfl)
      try simp only [Act.put, List.getElem_toArray, List.getElem_cons_succ, List.getElem_cons_zero, List.setIfInBounds_toArray, List.set_cons_zero, List.set_cons_succ]
      refine wpAnyT_take (i := 5) (v := ?_) rfl (by kernel_rfl) (by kernel_rfl) (by kernel_rfl) (by kernel_rfl) (fun _ _ _ h => h) (Or.inl ⟨by kernel_rfl, ?_⟩) (by assumption) ?_
      rotate_left
      · intro V hV; have k := KS.out V hV; clear hV; go_simp; try (with_reducible rfl)
      try simp only [Act.put, List.getElem_toArray, List.getElem_cons_succ, List.getElem_cons_zero, List.setIfInBounds_toArray, List.set_cons_zero, List.set_cons_succ]
      refine wpAnyT_one (i := 6) (by kernel_rfl) rfl (fun K hK => ?_)
      go_simp
      have HKA : Hid ((wd.alloc (.cells #[.int .i64 (sg : Int), .slice a1 tr.length c1, .slice a2 ps.length c2, .int .i64 ap, .slice a4 co.length c4, .int .u16 (hm : Int)] 30)).heap[tb]? = some (.cells #[.int .i64 T.tracks, vp, .int .i64 T.sigs, .slice ra zs.length rc] 25 (0, 0))) := tb_kept HKD.out (tb_alloc_below _ _)
      have HBA : Hid ((wd.alloc (.cells #[.int .i64 (sg : Int), .slice a1 tr.length c1, .slice a2 ps.length c2, .int .i64 ap, .slice a4 co.length c4, .int .u16 (hm : Int)] 30)).heap[bx]? = some (.cells #[.int .i64 (sg : Int), .slice a1 tr.length c1, .slice a2 ps.length c2, .int .i64 ap, .slice a4 co.length c4, .int .u16 (hm : Int)] 30 (0, 0))) := tb_kept HLD.out.box (tb_alloc_below _ _)
      refine hK.out _ _ (fun _ => KB.out _ HKA.out HBA.out) ?_
      clear hK K S1
      try simp only [Act.put, List.getElem_toArray, List.getElem_cons_succ, List.getElem_cons_zero, List.setIfInBounds_toArray, List.set_cons_zero, List.set_cons_succ]
      have HOA := Lib.hid (H3D.out.alloc (.cells #[.int .i64 (sg : Int), .slice a1 tr.length c1, .slice a2 ps.length c2, .int .i64 ap, .slice a4 co.length c4, .int .u16 (hm : Int)] 30))
      have HCW : Hid (C ≤ wd.heap.size) := by have := HC0.out; have := HLD.out.wz; have := HLD.out.bel.size; show _ ≤ _; omega
      refine wpAnyT_one (i := 7) (by kernel_rfl) rfl (fun K hK => ?_)
      refine step_append_lies _ (by rfl) _ _ _ (by rfl) C 30 i0 (.agg #[.int .i64 0, .slice none 0 0, .slice none 0 0, .int .i64 0, .slice none 0 0, .int .u16 0]) 6 96 Tryz.underlying23 HIn.out HZ0.out HZ1.out HZ2.out rfl (by omega) _ zs.length (zs.flatMap zC) (by rfl) HOA.out ⟨wd.heap.size, 0, none⟩ 1 1 [.int .i64 (sg : Int), .slice a1 tr.length c1, .slice a2 ps.length c2, .int .i64 ap, .slice a4 co.length c4, .int .u16 (hm : Int)] (by rfl) (by rfl) (World.news_of_block (heap_alloc_new wd _)) (by simp [Value.oneCell']) (by omega) (by unfold maxLen; omega) (by omega) (by have := HCW.out; simp; omega) (wd.heap.size + 1) (by simp) ?_
      intro gg cap w8 hown8 hgrow hat hlt8
      have hOn := grown_only hgrow
      have h8 : w8.heap[tb]? = some (.cells #[.int .i64 T.tracks, vp, .int .i64 T.sigs, .slice ra zs.length rc] 25 (0, 0)) := (hOn.block tb (heap_lt HKD.out) (fun e => own_ne H3D.out HKD.out (by decide) tb e.symm rfl)).trans HKD.out
      have hb8 : w8.heap[bx]? = some (.cells #[.int .i64 (sg : Int), .slice a1 tr.length c1, .slice a2 ps.length c2, .int .i64 ap, .slice a4 co.length c4, .int .u16 (hm : Int)] 30 (0, 0)) := (hOn.block bx (heap_lt HLD.out.box) (fun e => by have := KR.out bx e.symm; have := HLD.out.o1; have := HLD.out.o2; omega)).trans HLD.out.box
      have HR8 : Hid (RdAt rb sb all us bd w8) := by
        obtain ⟨qa, k1, k2⟩ := HLD.out.rd.at_
        exact HLD.out.rd.put ((hOn.block rb (heap_lt k1) (fun e => own_ne H3D.out k1 (by decide) rb e.symm rfl)).trans k1) (hOn.block sb (heap_lt HLD.out.rd.row) (fun e => own_ne H3D.out HLD.out.rd.row (by decide) sb e.symm rfl)) k2
      have HB8 : Hid (Below C w w8) := (HLD.out.bel.mono HC0.out).trans (hOn.below HCW.out (fun i hi e => by have := (H3D.out.lt i e.symm).1; omega))
      have hCb : C ≤ bx + 1 := by have := HC0.out; have := HLD.out.o1; have := HLD.out.o2; omega
      have hz : ZOk C wd (⟨(sg : Int), tr, ps, ap, co, hm⟩, .slice a1 tr.length c1, .slice a2 ps.length c2, .slice a4 co.length c4) := ⟨own_base O1D.out hCb, own_base O2D.out hCb, own_base O4D.out hCb, ⟨by show _ ≤ (sg : Int); omega, by show (sg : Int) ≤ _; omega⟩, KAP.out, hm16, K1.out, K2.out, K4.out⟩
      have HT8 := Lib.hid (HTD.out.addRt HKD.out H2D.out H3D.out H4D.out H5D.out hgrow (z := (⟨(sg : Int), tr, ps, ap, co, hm⟩, .slice a1 tr.length c1, .slice a2 ps.length c2, .slice a4 co.length c4)) (by rw [List.length_append, List.flatMap_append]; exact hown8) hz)
      have e1 : w8.cell? ⟨tb, 3, none⟩ = some (.slice ra zs.length rc) := cell_row h8 rfl
      have g1 : w8.frozen? ⟨tb, 3, none⟩ = false := frozen_of_row _ _ _ _ _ h8
      have S3 := KB.out _ h8 hb8
      refine hK.out _ _ (fun _ => S3) ?_
      clear hK K hown8 hgrow hat hlt8 hOn h8 hb8 HOA HKA HBA hz hCb HTD H2D H3D H4D H5D O1D O2D O4D HKD
      try simp only [Act.put, List.getElem_toArray, List.getElem_cons_succ, List.getElem_cons_zero, List.setIfInBounds_toArray, List.set_cons_zero, List.set_cons_succ]
      refine wpAnyT_pure (i := 8) (v := ?_) rfl (by kernel_rfl) (by kernel_rfl) (by kernel_rfl) (by kernel_rfl) (fun _ _ _ h => h) (Or.inl ⟨by kernel_rfl, ?_⟩) (fun _ => by assumption) ?_
      rotate_left
      · intro V hV; clear hV; go_simp; try (with_reducible rfl)
      try simp only [Act.put, List.getElem_toArray, List.getElem_cons_succ, List.getElem_cons_zero, List.setIfInBounds_toArray, List.set_cons_zero, List.set_cons_succ]
      refine wpAnyT_pure (i := 9) (v := ?_) rfl (by kernel_rfl) (by kernel_rfl) (by kernel_rfl) (by kernel_rfl) (fun _ _ _ h => h) (Or.inl ⟨by kernel_rfl, ?_⟩) (fun _ => by assumption) ?_
      rotate_left
      · intro V hV; clear hV; go_simp; try (with_reducible rfl)
      try simp only [Act.put, List.getElem_toArray, List.getElem_cons_succ, List.getElem_cons_zero, List.setIfInBounds_toArray, List.set_cons_zero, List.set_cons_succ]
      refine wpAnyT_one (i := 10) (by kernel_rfl) rfl (fun K hK => ?_)
      go_simp
      clear S3
      refine hK.out _ _ (fun h => absurd (show false = true from h) (by decide)) ?_
      clear hK K
      try simp only [Act.put, List.getElem_toArray, List.getElem_cons_succ, List.getElem_cons_zero, List.setIfInBounds_toArray, List.set_cons_zero, List.set_cons_succ]
      refine wpAnyT_done (by kernel_rfl) ?_ _
      have HR9 := Lib.hid (HR8.out.other (tb := tb) (i := 3) (x := .slice (some ⟨gg, 0, none⟩) (zs.length + 1) cap) (by have := HTZ.out; have := HLD.out.o1; omega) (by have := HTZ.out; omega))
      have HB9 : Hid (Below C w (w8.setCell ⟨tb, 3, none⟩ (.slice (some ⟨gg, 0, none⟩) (zs.length + 1) cap))) := HB8.out.setCell (p := ⟨tb, 3, none⟩) HT.out.low _
      clear HR8 HB8 e1 g1 KS KB
      generalize w8.setCell ⟨tb, 3, none⟩ (.slice (some ⟨gg, 0, none⟩) (zs.length + 1) cap) = w10 at *
      have HST : Hid (stepT T n s.data.toList = if okC bd us = true then some { T with rts := T.rts ++ [⟨(sg : Int), tr, ps, ap, co, hm⟩] } else none) := by
        show _ = _
        rw [step_route hn HH.out]
        have h := HGV.out
        rw [HC.out] at h
        rw [show rtT (partL 32 s.data.toList) = if okC bd us = true then some ⟨(sg : Int), tr, ps, ap, co, hm⟩ else none from h]
        cases okC bd us <;> rfl
      have HFIN : Hid (∀ ok, ok = okC bd us → LineP C tb T n s.data.toList w (.returned (.bool ok)) w10) := fun ok hok => by
        refine ⟨⟨ok, rfl, fun T' h => ?_, fun h => ?_⟩, HB9.out⟩
        · rw [HST.out] at h
          subst hok
          cases hb : okC bd us with
          | true => rw [hb] at h; obtain rfl := Option.some.inj h; exact ⟨rfl, HT8.out⟩
          | false => rw [hb] at h; cases h
        · rw [HST.out] at h
          subst hok
          cases hb : okC bd us with
          | true => rw [hb] at h; cases h
          | false => rfl
      clear HST HC HGV HT8 HB9 HT HH HLD
      go_upto_region 26 with fail
      cases bd with
      | true =>
        obtain ⟨ra, hr, _⟩ := HR9.out.at_
        have c1 : w10.cell? ⟨rb, 1, none⟩ = some (.bool true) := cell_row hr rfl
        clear hr
        go_wp2_with fail
        go_ret
        exact HFIN.out false rfl
      | false =>
        cases us with
        | nil =>
          obtain ⟨ra, hr⟩ := HR9.out.nil
          have c1 : w10.cell? ⟨rb, 1, none⟩ = some (.bool false) := cell_row hr rfl
          have c0 : w10.cell? ⟨rb, 0, none⟩ = some (.slice ra 0 0) := cell_row hr rfl
          clear hr
          go_wp2_with fail
          go_ret
          exact HFIN.out true rfl
        | cons q0 r0 =>
          obtain ⟨o0, hr, _, _, _⟩ := HR9.out.head
          have hl0 : r0.length + 1 ≤ 1000000 := by have := HR9.out.left; simpa using this
          have c1 : w10.cell? ⟨rb, 1, none⟩ = some (.bool false) := cell_row hr rfl
          have c0 : w10.cell? ⟨rb, 0, none⟩ = some (.slice (some ⟨sb, o0, none⟩) (r0.length + 1) (r0.length + 1)) := cell_row hr rfl
          have t0 : ((r0.length : Int) + 1 == 0) = false := beq_eq_false_iff_ne.2 (by omega)
          clear hr
          go_wp2_with fail
          go_ret
          exact HFIN.out false rfl
    | cons q0 r0 =>
      obtain ⟨o0, hr, y0, ysl, _⟩ := HL.out.rd.head
      have d0 : w3.cell? ⟨rb, 0, none⟩ = some (.slice (some ⟨sb, o0, none⟩) (r0.length + 1) (r0.length + 1)) := cell_row hr rfl
      have hl0 : r0.length + 1 ≤ 1000000 := by have := HL.out.rd.left; simpa using this
      by_cases hq0 : q0 = { data := #[97, 112, 112, 114, 111, 97, 99, 104] }
      · subst hq0
        replace HC : Hid (RC = apC1 (sg : Int) tr ps (wordS us1 bd (bytesOf wAp))) := by rw [hus]; exact HC.out.trans (apC_hit _ _ _ rfl)
        rw [← hus] at HL
        clear hus hr
        obtain ⟨us, rfl⟩ : ∃ x, x = us1 := ⟨_, rfl⟩
        go_wp2_with fail
        refine (HL.out.word (bytesOf wAp)).mono ?_
        rintro e w9 ⟨rfl, hl, ho⟩
        replace HL := Lib.hid hl
        replace O1 := Lib.hid (own_rb O1.out ho HRL.out)
        replace O2 := Lib.hid (own_rb O2.out ho HRL.out)
        clear hl ho
        generalize wordS us bd (bytesOf wAp) = x0 at *
        obtain ⟨us', bd'⟩ := x0
        replace HC : Hid (RC = apC2 (sg : Int) tr ps (numS2 us' bd')) := HC.out
        clear us bd
        obtain ⟨us, rfl⟩ : ∃ x, x = us' := ⟨_, rfl⟩
        obtain ⟨bd, rfl⟩ : ∃ x, x = bd' := ⟨_, rfl⟩
        obtain ⟨w3, rfl⟩ : ∃ x, x = w9 := ⟨_, rfl⟩
        clear d0 y0 ysl
        go_wp2_with fail
        refine (HL.out.num).mono ?_
        rintro e w9 ⟨rfl, hl, ho⟩
        replace HL := Lib.hid hl
        replace O1 := Lib.hid (own_rb O1.out ho HRL.out)
        replace O2 := Lib.hid (own_rb O2.out ho HRL.out)
        clear hl ho
        have hlt_ax := numS2_lt us bd
        generalize numS2 us bd = x0 at *
        obtain ⟨ax, us', bd'⟩ := x0
        replace HC : Hid (RC = endC1 (sg : Int) tr ps (ax : Int) (wordS us' bd' (bytesOf wHo))) := HC.out
        have hlt_ax : ax < 100000 := hlt_ax
        clear us bd
        obtain ⟨us, rfl⟩ : ∃ x, x = us' := ⟨_, rfl⟩
        obtain ⟨bd, rfl⟩ : ∃ x, x = bd' := ⟨_, rfl⟩
        have cc := cell_row (j := 3) HL.out.box rfl
        have ff : w9.frozen? ⟨bx, 3, none⟩ = false := frozen_of_row _ _ _ _ _ HL.out.box
        replace HL : Hid (LS sb rb bx all us bd #[.int .i64 (sg : Int), .slice a1 tr.length c1, .slice a2 ps.length c2, .int .i64 (ax : Int), .slice none 0 0, .int .u16 0] w (w9.setCell ⟨bx, 3, none⟩ (.int .i64 (ax : Int)))) := HL.out.set 3 (.int .i64 (ax : Int))
        replace O1 := Lib.hid (own_bx (i := 3) (x := .int .i64 (ax : Int)) O1.out HBL.out)
        replace O2 := Lib.hid (own_bx (i := 3) (x := .int .i64 (ax : Int)) O2.out HBL.out)
        go_upto_region 12 with fail
        clear cc ff
        generalize w9.setCell ⟨bx, 3, none⟩ (.int .i64 (ax : Int)) = w3 at *
        have KAP : Hid (i64ok (ax : Int)) := ⟨by omega, by omega⟩
        obtain ⟨ap, hap⟩ : ∃ ap : Int, ap = (ax : Int) := ⟨_, rfl⟩
        rw [← hap] at KAP HL HC
        clear hap
        go_wp2_with fail
        refine (HL.out.word (bytesOf wHo)).mono ?_
        rintro e w9 ⟨rfl, hl, ho⟩
        replace HL := Lib.hid hl
        replace O1 := Lib.hid (own_rb O1.out ho HRL.out)
        replace O2 := Lib.hid (own_rb O2.out ho HRL.out)
        clear hl ho
        generalize wordS us bd (bytesOf wHo) = x0 at *
        obtain ⟨us', bd'⟩ := x0
        replace HC : Hid (RC = endC2 (sg : Int) tr ps ap (numS2 us' bd')) := HC.out
        clear us bd
        obtain ⟨us, rfl⟩ : ∃ x, x = us' := ⟨_, rfl⟩
        obtain ⟨bd, rfl⟩ : ∃ x, x = bd' := ⟨_, rfl⟩
        obtain ⟨w3, rfl⟩ : ∃ x, x = w9 := ⟨_, rfl⟩
        go_wp2_with fail
        refine (HL.out.num).mono ?_
        rintro e w9 ⟨rfl, hl, ho⟩
        replace HL := Lib.hid hl
        replace O1 := Lib.hid (own_rb O1.out ho HRL.out)
        replace O2 := Lib.hid (own_rb O2.out ho HRL.out)
        clear hl ho
        have hlt_hd := numS2_lt us bd
        generalize numS2 us bd = x0 at *
        obtain ⟨hd, us', bd'⟩ := x0
        replace HC : Hid (RC = endC3 (sg : Int) tr ps ap hd (wordS us' bd' (bytesOf wCo))) := HC.out
        have hlt_hd : hd < 100000 := hlt_hd
        clear us bd
        obtain ⟨us, rfl⟩ : ∃ x, x = us' := ⟨_, rfl⟩
        obtain ⟨bd, rfl⟩ : ∃ x, x = bd' := ⟨_, rfl⟩
        have cc := cell_row (j := 5) HL.out.box rfl
        have ff : w9.frozen? ⟨bx, 5, none⟩ = false := frozen_of_row _ _ _ _ _ HL.out.box
        replace HL : Hid (LS sb rb bx all us bd #[.int .i64 (sg : Int), .slice a1 tr.length c1, .slice a2 ps.length c2, .int .i64 ap, .slice none 0 0, .int .u16 (IntKind.u16.wrap (hd : Int))] w (w9.setCell ⟨bx, 5, none⟩ (.int .u16 (IntKind.u16.wrap (hd : Int))))) := HL.out.set 5 (.int .u16 (IntKind.u16.wrap (hd : Int)))
        replace O1 := Lib.hid (own_bx (i := 5) (x := .int .u16 (IntKind.u16.wrap (hd : Int))) O1.out HBL.out)
        replace O2 := Lib.hid (own_bx (i := 5) (x := .int .u16 (IntKind.u16.wrap (hd : Int))) O2.out HBL.out)
        go_upto_region 14 with fail
        clear cc ff
        generalize w9.setCell ⟨bx, 5, none⟩ (.int .u16 (IntKind.u16.wrap (hd : Int))) = w3 at *
        have hhm : IntKind.u16.wrap (hd : Int) = ((hd % 65536 : Nat) : Int) := by
          have e : IntKind.u16.wrap (hd : Int) = (hd : Int) % 65536 := rfl
          rw [e]; omega
        rw [hhm] at HL
        clear hhm
        go_wp2_with fail
        refine (HL.out.word (bytesOf wCo)).mono ?_
        rintro e w9 ⟨rfl, hl, ho⟩
        replace HL := Lib.hid hl
        replace O1 := Lib.hid (own_rb O1.out ho HRL.out)
        replace O2 := Lib.hid (own_rb O2.out ho HRL.out)
        clear hl ho
        generalize wordS us bd (bytesOf wCo) = x0 at *
        obtain ⟨us', bd'⟩ := x0
        replace HC : Hid (RC = endD (sg : Int) tr ps ap hd (allS [] digF us' bd')) := HC.out
        clear us bd
        obtain ⟨us, rfl⟩ : ∃ x, x = us' := ⟨_, rfl⟩
        obtain ⟨bd, rfl⟩ : ∃ x, x = bd' := ⟨_, rfl⟩
        obtain ⟨w3, rfl⟩ : ∃ x, x = w9 := ⟨_, rfl⟩
        go_wp2_with fail
        refine (HL.out.allZ).mono ?_
        rintro e w9 ⟨⟨v4, rfl, ho4⟩, hl, ho⟩
        obtain ⟨a4, c4, rfl⟩ := own_sl ho4
        have O4 : Hid (w9.ownsRow (bx + 1) 3 1 (.slice a4 (allS [] digF us bd).1.length c4) (allS [] digF us bd).1.length (intsV (allS [] digF us bd).1)) := own_base ho4 (heap_lt HL.out.box)
        have K4 : Hid (∀ x ∈ (allS [] digF us bd).1, i64ok x) := digF_ok _ _ _
        replace O1 := Lib.hid (own_rb O1.out ho HRL.out)
        replace O2 := Lib.hid (own_rb O2.out ho HRL.out)
        replace HL := Lib.hid hl
        clear hl ho ho4
        generalize allS [] digF us bd = x0 at *
        obtain ⟨co, us', bd'⟩ := x0
        replace HC : Hid (RC = (⟨(sg : Int), tr, ps, ap, co, hd % 65536⟩, okC bd' us')) := HC.out
        clear us bd
        obtain ⟨us, rfl⟩ : ∃ x, x = us' := ⟨_, rfl⟩
        obtain ⟨bd, rfl⟩ : ∃ x, x = bd' := ⟨_, rfl⟩
        replace O4 : Hid (w9.ownsRow (bx + 1) 3 1 (.slice a4 co.length c4) co.length (intsV co)) := O4.out
        replace K4 : Hid (∀ x ∈ co, i64ok x) := K4.out
        replace O4 := Lib.hid (own_bx (i := 4) (x := .slice a4 co.length c4) O4.out HBL.out)
        have cc := cell_row (j := 4) HL.out.box rfl
        have ff : w9.frozen? ⟨bx, 4, none⟩ = false := frozen_of_row _ _ _ _ _ HL.out.box
        replace HL : Hid (LS sb rb bx all us bd #[.int .i64 (sg : Int), .slice a1 tr.length c1, .slice a2 ps.length c2, .int .i64 ap, .slice a4 co.length c4, .int .u16 ((hd % 65536 : Nat) : Int)] w (w9.setCell ⟨bx, 4, none⟩ (.slice a4 co.length c4))) := HL.out.set 4 (.slice a4 co.length c4)
        replace O1 := Lib.hid (own_bx (i := 4) (x := .slice a4 co.length c4) O1.out HBL.out)
        replace O2 := Lib.hid (own_bx (i := 4) (x := .slice a4 co.length c4) O2.out HBL.out)
        go_upto_region 16 with fail
        clear cc ff
        generalize w9.setCell ⟨bx, 4, none⟩ (.slice a4 co.length c4) = w3 at *
        have hm16 : hd % 65536 < 65536 := Nat.mod_lt _ (by omega)
        generalize hd % 65536 = hm at *
        obtain ⟨vp, vr, zs, h1, h2, h3, h4, h5⟩ := HT.out.at_
        obtain ⟨ra, rc, rfl⟩ := own_sl h3
        have KR : Hid (∀ k, (Value.slice ra zs.length rc).ownBlock = some k → k < sb) := fun k hk => by rw [HSB.out]; exact (h3.lt k hk).2
        have HBW : Hid (Below w.heap.size w w3.drew) := by rw [← HSB.out]; exact HL.out.drew.bel
        have HKD : Hid (w3.drew.heap[tb]? = some (.cells #[.int .i64 T.tracks, vp, .int .i64 T.sigs, .slice ra zs.length rc] 25 (0, 0))) := tb_kept h1 HBW.out
        have HTD : Hid (TM C tb T w3.drew) := HT.out.old HBW.out
        have H2D := Lib.hid (own_old h2 HBW.out); have H3D := Lib.hid (own_old h3 HBW.out)
        have H5D : Hid (∀ z ∈ zs, ZOk C w3.drew z) := fun z hz => (h5 z hz).old HBW.out
        have H4D := Lib.hid h4
        have HLD := Lib.hid HL.out.drew
        have O1D := Lib.hid (own_drew O1.out); have O2D := Lib.hid (own_drew O2.out); have O4D := Lib.hid (own_drew O4.out)
        have hzm : zs.length ≤ 1000000 := by rw [h4, List.length_map] at hp; exact hp
        clear h1 h2 h3 h4 h5 O1 O2 O4
        refine wp_region_T (BoxS tb bx (.slice ra zs.length rc) (.int .i64 (sg : Int)) (.slice a1 tr.length c1) (.slice a2 ps.length c2) (.int .i64 ap) (.slice a4 co.length c4) (.int .u16 (hm : Int))) [10] (by kernel_rfl) ?_
        change wpAnyT _ _ _ _ _ _ _ _ _ (World.drew _)
        generalize w3.drew = wd at *
        clear HL HBW
        have KB : Hid (∀ V : World, V.heap[tb]? = some (.cells #[.int .i64 T.tracks, vp, .int .i64 T.sigs, .slice ra zs.length rc] 25 (0, 0)) → V.heap[bx]? = some (.cells #[.int .i64 (sg : Int), .slice a1 tr.length c1, .slice a2 ps.length c2, .int .i64 ap, .slice a4 co.length c4, .int .u16 (hm : Int)] 30 (0, 0)) → BoxS tb bx (.slice ra zs.length rc) (.int .i64 (sg : Int)) (.slice a1 tr.length c1) (.slice a2 ps.length c2) (.int .i64 ap) (.slice a4 co.length c4) (.int .u16 (hm : Int)) V) := fun V h h' => ⟨cell_row h rfl, cell_row h' rfl, cell_row h' rfl, cell_row h' rfl, cell_row h' rfl, cell_row h' rfl, cell_row h' rfl⟩
        have KS : Hid (∀ V : World, BoxS tb bx (.slice ra zs.length rc) (.int .i64 (sg : Int)) (.slice a1 tr.length c1) (.slice a2 ps.length c2) (.int .i64 ap) (.slice a4 co.length c4) (.int .u16 (hm : Int)) V → (V.cell? ⟨tb, 3, none⟩ = some (.slice ra zs.length rc) ∧ V.cell? ⟨bx, 0, none⟩ = some (.int .i64 (sg : Int)) ∧ V.cell? ⟨bx, 1, none⟩ = some (.slice a1 tr.length c1) ∧ V.cell? ⟨bx, 2, none⟩ = some (.slice a2 ps.length c2) ∧ V.cell? ⟨bx, 3, none⟩ = some (.int .i64 ap) ∧ V.cell? ⟨bx, 4, none⟩ = some (.slice a4 co.length c4) ∧ V.cell? ⟨bx, 5, none⟩ = some (.int .u16 (hm : Int)))) := fun V h => h
        have S1 := KB.out _ HKD.out HLD.out.box
        refine wpAnyT_pure (i := 0) (v := ?_) rfl (by kernel_rfl) (by kernel_rfl) (by kernel_rfl) (by kernel_rfl) (fun _ _ _ h => h) (Or.inl ⟨by kernel_rfl, ?_⟩) (fun _ => by assumption) ?_
        rotate_left
        · intro V hV; clear hV; go_simp; try (with_reducible rfl)
        try simp only [Act.put, List.getElem_toArray, List.getElem_cons_succ, List.getElem_cons_zero, List.setIfInBounds_toArray, List.set_cons_zero, List.set_cons_succ]
        refine wpAnyT_pure (i := 1) (v := ?_) rfl (by kernel_rfl) (by kernel_rfl) (by kernel_rfl) (by kernel_rfl) (fun _ _ _ h => h) (Or.inl ⟨by kernel_rfl, ?_⟩) (fun _ => by assumption) ?_
        rotate_left
        · intro V hV; clear hV; go_simp; try (with_reducible rfl)
        try simp only [Act.put, List.getElem_toArray, List.getElem_cons_succ, List.getElem_cons_zero, List.setIfInBounds_toArray, List.set_cons_zero, List.set_cons_succ]
        refine wpAnyT_pure (i := 2) (v := ?_) rfl (by kernel_rfl) (by kernel_rfl) (by kernel_rfl) (by kernel_rfl) (fun _ _ _ h => h) (Or.inl ⟨by kernel_rfl, ?_⟩) (fun _ => by assumption) ?_
        rotate_left
        · intro V hV; clear hV; go_simp; try (with_reducible rfl)
        try simp only [Act.put, List.getElem_toArray, List.getElem_cons_succ, List.getElem_cons_zero, List.setIfInBounds_toArray, List.set_cons_zero, List.set_cons_succ]
        refine wpAnyT_pure (i := 3) (v := ?_) rfl (by kernel_rfl) (by kernel_rfl) (by kernel_rfl) (by kernel_rfl) (fun _ _ _ h => h) (Or.inl ⟨by kernel_rfl, ?_⟩) (fun _ => by assumption) ?_
        rotate_left
        · intro V hV; clear hV; go_simp; try (with_reducible rfl)
        try simp only [Act.put, List.getElem_toArray, List.getElem_cons_succ, List.getElem_cons_zero, List.setIfInBounds_toArray, List.set_cons_zero, List.set_cons_succ]
        refine wpAnyT_take (i := 4) (v := ?_) rfl (by kernel_rfl) (by kernel_rfl) (by kernel_rfl) (by kernel_rfl) (fun _ _ _ h => h) (Or.inl ⟨by kernel_rfl, ?_⟩) (by assumption) ?_
        rotate_left
        · intro V hV; have k := KS.out V hV; clear hV; go_simp; try (with_reducible rfl)
        try simp only [Act.put, List.getElem_toArray, List.getElem_cons_succ, List.getElem_cons_zero, List.setIfInBounds_toArray, List.set_cons_zero, List.set_cons_succ]
        refine wpAnyT_take (i := 5) (v := ?_) rfl (by kernel_rfl) (by kernel_rfl) (by kernel_rfl) (by kernel_rfl) (fun _ _ _ h => h) (Or.inl ⟨by kernel_rfl, ?_⟩) (by assumption) ?_
        rotate_left
        · intro V hV; have k := KS.out V hV; clear hV; go_simp; try (with_reducible rfl)
        try simp only [Act.put, List.getElem_toArray, List.getElem_cons_succ, List.getElem_cons_zero, List.setIfInBounds_toArray, List.set_cons_zero, List.set_cons_succ]
        refine wpAnyT_one (i := 6) (by kernel_rfl) rfl (fun K hK => ?_)
        go_simp
        have HKA : Hid ((wd.alloc (.cells #[.int .i64 (sg : Int), .slice a1 tr.length c1, .slice a2 ps.length c2, .int .i64 ap, .slice a4 co.length c4, .int .u16 (hm : Int)] 30)).heap[tb]? = some (.cells #[.int .i64 T.tracks, vp, .int .i64 T.sigs, .slice ra zs.length rc] 25 (0, 0))) := tb_kept HKD.out (tb_alloc_below _ _)
        have HBA : Hid ((wd.alloc (.cells #[.int .i64 (sg : Int), .slice a1 tr.length c1, .slice a2 ps.length c2, .int .i64 ap, .slice a4 co.length c4, .int .u16 (hm : Int)] 30)).heap[bx]? = some (.cells #[.int .i64 (sg : Int), .slice a1 tr.length c1, .slice a2 ps.length c2, .int .i64 ap, .slice a4 co.length c4, .int .u16 (hm : Int)] 30 (0, 0))) := tb_kept HLD.out.box (tb_alloc_below _ _)
        refine hK.out _ _ (fun _ => KB.out _ HKA.out HBA.out) ?_
        clear hK K S1
        try simp only [Act.put, List.getElem_toArray, List.getElem_cons_succ, List.getElem_cons_zero, List.setIfInBounds_toArray, List.set_cons_zero, List.set_cons_succ]
        have HOA := Lib.hid (H3D.out.alloc (.cells #[.int .i64 (sg : Int), .slice a1 tr.length c1, .slice a2 ps.length c2, .int .i64 ap, .slice a4 co.length c4, .int .u16 (hm : Int)] 30))
        have HCW : Hid (C ≤ wd.heap.size) := by have := HC0.out; have := HLD.out.wz; have := HLD.out.bel.size; show _ ≤ _; omega
        refine wpAnyT_one (i := 7) (by kernel_rfl) rfl (fun K hK => ?_)
        refine step_append_lies _ (by rfl) _ _ _ (by rfl) C 30 i0 (.agg #[.int .i64 0, .slice none 0 0, .slice none 0 0, .int .i64 0, .slice none 0 0, .int .u16 0]) 6 96 Tryz.underlying23 HIn.out HZ0.out HZ1.out HZ2.out rfl (by omega) _ zs.length (zs.flatMap zC) (by rfl) HOA.out ⟨wd.heap.size, 0, none⟩ 1 1 [.int .i64 (sg : Int), .slice a1 tr.length c1, .slice a2 ps.length c2, .int .i64 ap, .slice a4 co.length c4, .int .u16 (hm : Int)] (by rfl) (by rfl) (World.news_of_block (heap_alloc_new wd _)) (by simp [Value.oneCell']) (by omega) (by unfold maxLen; omega) (by omega) (by have := HCW.out; simp; omega) (wd.heap.size + 1) (by simp) ?_
        intro gg cap w8 hown8 hgrow hat hlt8
        have hOn := grown_only hgrow
        have h8 : w8.heap[tb]? = some (.cells #[.int .i64 T.tracks, vp, .int .i64 T.sigs, .slice ra zs.length rc] 25 (0, 0)) := (hOn.block tb (heap_lt HKD.out) (fun e => own_ne H3D.out HKD.out (by decide) tb e.symm rfl)).trans HKD.out
        have hb8 : w8.heap[bx]? = some (.cells #[.int .i64 (sg : Int), .slice a1 tr.length c1, .slice a2 ps.length c2, .int .i64 ap, .slice a4 co.length c4, .int .u16 (hm : Int)] 30 (0, 0)) := (hOn.block bx (heap_lt HLD.out.box) (fun e => by have := KR.out bx e.symm; have := HLD.out.o1; have := HLD.out.o2; omega)).trans HLD.out.box
        have HR8 : Hid (RdAt rb sb all us bd w8) := by
          obtain ⟨qa, k1, k2⟩ := HLD.out.rd.at_
          exact HLD.out.rd.put ((hOn.block rb (heap_lt k1) (fun e => own_ne H3D.out k1 (by decide) rb e.symm rfl)).trans k1) (hOn.block sb (heap_lt HLD.out.rd.row) (fun e => own_ne H3D.out HLD.out.rd.row (by decide) sb e.symm rfl)) k2
        have HB8 : Hid (Below C w w8) := (HLD.out.bel.mono HC0.out).trans (hOn.below HCW.out (fun i hi e => by have := (H3D.out.lt i e.symm).1; omega))
        have hCb : C ≤ bx + 1 := by have := HC0.out; have := HLD.out.o1; have := HLD.out.o2; omega
        have hz : ZOk C wd (⟨(sg : Int), tr, ps, ap, co, hm⟩, .slice a1 tr.length c1, .slice a2 ps.length c2, .slice a4 co.length c4) := ⟨own_base O1D.out hCb, own_base O2D.out hCb, own_base O4D.out hCb, ⟨by show _ ≤ (sg : Int); omega, by show (sg : Int) ≤ _; omega⟩, KAP.out, hm16, K1.out, K2.out, K4.out⟩
        have HT8 := Lib.hid (HTD.out.addRt HKD.out H2D.out H3D.out H4D.out H5D.out hgrow (z := (⟨(sg : Int), tr, ps, ap, co, hm⟩, .slice a1 tr.length c1, .slice a2 ps.length c2, .slice a4 co.length c4)) (by rw [List.length_append, List.flatMap_append]; exact hown8) hz)
        have e1 : w8.cell? ⟨tb, 3, none⟩ = some (.slice ra zs.length rc) := cell_row h8 rfl
        have g1 : w8.frozen? ⟨tb, 3, none⟩ = false := frozen_of_row _ _ _ _ _ h8
        have S3 := KB.out _ h8 hb8
        refine hK.out _ _ (fun _ => S3) ?_
        clear hK K hown8 hgrow hat hlt8 hOn h8 hb8 HOA HKA HBA hz hCb HTD H2D H3D H4D H5D O1D O2D O4D HKD
        try simp only [Act.put, List.getElem_toArray, List.getElem_cons_succ, List.getElem_cons_zero, List.setIfInBounds_toArray, List.set_cons_zero, List.set_cons_succ]
        refine wpAnyT_pure (i := 8) (v := ?_) rfl (by kernel_rfl) (by kernel_rfl) (by kernel_rfl) (by kernel_rfl) (fun _ _ _ h => h) (Or.inl ⟨by kernel_rfl, ?_⟩) (fun _ => by assumption) ?_
        rotate_left
        · intro V hV; clear hV; go_simp; try (with_reducible rfl)
        try simp only [Act.put, List.getElem_toArray, List.getElem_cons_succ, List.getElem_cons_zero, List.setIfInBounds_toArray, List.set_cons_zero, List.set_cons_succ]
        refine wpAnyT_pure (i := 9) (v := ?_) rfl (by kernel_rfl) (by kernel_rfl) (by kernel_rfl) (by kernel_rfl) (fun _ _ _ h => h) (Or.inl ⟨by kernel_rfl, ?_⟩) (fun _ => by assumption) ?_
        rotate_left
        · intro V hV; clear hV; go_simp; try (with_reducible rfl)
        try simp only [Act.put, List.getElem_toArray, List.getElem_cons_succ, List.getElem_cons_zero, List.setIfInBounds_toArray, List.set_cons_zero, List.set_cons_succ]
        refine wpAnyT_one (i := 10) (by kernel_rfl) rfl (fun K hK => ?_)
        go_simp
        clear S3
        refine hK.out _ _ (fun h => absurd (show false = true from h) (by decide)) ?_
        clear hK K
        try simp only [Act.put, List.getElem_toArray, List.getElem_cons_succ, List.getElem_cons_zero, List.setIfInBounds_toArray, List.set_cons_zero, List.set_cons_succ]
        refine wpAnyT_done (by kernel_rfl) ?_ _
        have HR9 := Lib.hid (HR8.out.other (tb := tb) (i := 3) (x := .slice (some ⟨gg, 0, none⟩) (zs.length + 1) cap) (by have := HTZ.out; have := HLD.out.o1; omega) (by have := HTZ.out; omega))
        have HB9 : Hid (Below C w (w8.setCell ⟨tb, 3, none⟩ (.slice (some ⟨gg, 0, none⟩) (zs.length + 1) cap))) := HB8.out.setCell (p := ⟨tb, 3, none⟩) HT.out.low _
        clear HR8 HB8 e1 g1 KS KB
        generalize w8.setCell ⟨tb, 3, none⟩ (.slice (some ⟨gg, 0, none⟩) (zs.length + 1) cap) = w10 at *
        have HST : Hid (stepT T n s.data.toList = if okC bd us = true then some { T with rts := T.rts ++ [⟨(sg : Int), tr, ps, ap, co, hm⟩] } else none) := by
          show _ = _
          rw [step_route hn HH.out]
          have h := HGV.out
          rw [HC.out] at h
          rw [show rtT (partL 32 s.data.toList) = if okC bd us = true then some ⟨(sg : Int), tr, ps, ap, co, hm⟩ else none from h]
          cases okC bd us <;> rfl
        have HFIN : Hid (∀ ok, ok = okC bd us → LineP C tb T n s.data.toList w (.returned (.bool ok)) w10) := fun ok hok => by
          refine ⟨⟨ok, rfl, fun T' h => ?_, fun h => ?_⟩, HB9.out⟩
          · rw [HST.out] at h
            subst hok
            cases hb : okC bd us with
            | true => rw [hb] at h; obtain rfl := Option.some.inj h; exact ⟨rfl, HT8.out⟩
            | false => rw [hb] at h; cases h
          · rw [HST.out] at h
            subst hok
            cases hb : okC bd us with
            | true => rw [hb] at h; cases h
            | false => rfl
        clear HST HC HGV HT8 HB9 HT HH HLD
        go_upto_region 26 with fail
        cases bd with
        | true =>
          obtain ⟨ra, hr, _⟩ := HR9.out.at_
          have c1 : w10.cell? ⟨rb, 1, none⟩ = some (.bool true) := cell_row hr rfl
          clear hr
          go_wp2_with fail
          go_ret
          exact HFIN.out false rfl
        | false =>
          cases us with
          | nil =>
            obtain ⟨ra, hr⟩ := HR9.out.nil
            have c1 : w10.cell? ⟨rb, 1, none⟩ = some (.bool false) := cell_row hr rfl
            have c0 : w10.cell? ⟨rb, 0, none⟩ = some (.slice ra 0 0) := cell_row hr rfl
            clear hr
            go_wp2_with fail
            go_ret
            exact HFIN.out true rfl
          | cons q0 r0 =>
            obtain ⟨o0, hr, _, _, _⟩ := HR9.out.head
            have hl0 : r0.length + 1 ≤ 1000000 := by have := HR9.out.left; simpa using this
            have c1 : w10.cell? ⟨rb, 1, none⟩ = some (.bool false) := cell_row hr rfl
            have c0 : w10.cell? ⟨rb, 0, none⟩ = some (.slice (some ⟨sb, o0, none⟩) (r0.length + 1) (r0.length + 1)) := cell_row hr rfl
            have t0 : ((r0.length : Int) + 1 == 0) = false := beq_eq_false_iff_ne.2 (by omega)
            clear hr
            go_wp2_with fail
            go_ret
            exact HFIN.out false rfl
      · have tq0 : (q0.toList == [97, 112, 112, 114, 111, 97, 99, 104]) = false := beq_eq_false_iff_ne.2 (fun e => hq0 (data_inj (s := { data := #[97, 112, 112, 114, 111, 97, 99, 104] }) (by rw [e, ByteArray.toList_eq])))
        replace HC : Hid (RC = endC1 (sg : Int) tr ps (-1) (wordS us1 bd (bytesOf wHo))) := by rw [hus]; exact HC.out.trans (apC_miss _ _ _ hq0)
        rw [← hus] at HL
        clear hus hr hq0
        obtain ⟨us, rfl⟩ : ∃ x, x = us1 := ⟨_, rfl⟩
        go_upto_region 12 with fail
        clear d0
        have KAP : Hid (i64ok (-1 : Int)) := ⟨by omega, by omega⟩
        obtain ⟨ap, hap⟩ : ∃ ap : Int, ap = (-1 : Int) := ⟨_, rfl⟩
        rw [← hap] at KAP HL HC
        clear hap
        go_wp2_with fail
        refine (HL.out.word (bytesOf wHo)).mono ?_
        rintro e w9 ⟨rfl, hl, ho⟩
        replace HL := Lib.hid hl
        replace O1 := Lib.hid (own_rb O1.out ho HRL.out)
        replace O2 := Lib.hid (own_rb O2.out ho HRL.out)
        clear hl ho
        generalize wordS us bd (bytesOf wHo) = x0 at *
        obtain ⟨us', bd'⟩ := x0
        replace HC : Hid (RC = endC2 (sg : Int) tr ps ap (numS2 us' bd')) := HC.out
        clear us bd
        obtain ⟨us, rfl⟩ : ∃ x, x = us' := ⟨_, rfl⟩
        obtain ⟨bd, rfl⟩ : ∃ x, x = bd' := ⟨_, rfl⟩
        obtain ⟨w3, rfl⟩ : ∃ x, x = w9 := ⟨_, rfl⟩
        go_wp2_with fail
        refine (HL.out.num).mono ?_
        rintro e w9 ⟨rfl, hl, ho⟩
        replace HL := Lib.hid hl
        replace O1 := Lib.hid (own_rb O1.out ho HRL.out)
        replace O2 := Lib.hid (own_rb O2.out ho HRL.out)
        clear hl ho
        have hlt_hd := numS2_lt us bd
        generalize numS2 us bd = x0 at *
        obtain ⟨hd, us', bd'⟩ := x0
        replace HC : Hid (RC = endC3 (sg : Int) tr ps ap hd (wordS us' bd' (bytesOf wCo))) := HC.out
        have hlt_hd : hd < 100000 := hlt_hd
        clear us bd
        obtain ⟨us, rfl⟩ : ∃ x, x = us' := ⟨_, rfl⟩
        obtain ⟨bd, rfl⟩ : ∃ x, x = bd' := ⟨_, rfl⟩
        have cc := cell_row (j := 5) HL.out.box rfl
        have ff : w9.frozen? ⟨bx, 5, none⟩ = false := frozen_of_row _ _ _ _ _ HL.out.box
        replace HL : Hid (LS sb rb bx all us bd #[.int .i64 (sg : Int), .slice a1 tr.length c1, .slice a2 ps.length c2, .int .i64 ap, .slice none 0 0, .int .u16 (IntKind.u16.wrap (hd : Int))] w (w9.setCell ⟨bx, 5, none⟩ (.int .u16 (IntKind.u16.wrap (hd : Int))))) := HL.out.set 5 (.int .u16 (IntKind.u16.wrap (hd : Int)))
        replace O1 := Lib.hid (own_bx (i := 5) (x := .int .u16 (IntKind.u16.wrap (hd : Int))) O1.out HBL.out)
        replace O2 := Lib.hid (own_bx (i := 5) (x := .int .u16 (IntKind.u16.wrap (hd : Int))) O2.out HBL.out)
        go_upto_region 14 with fail
        clear cc ff
        generalize w9.setCell ⟨bx, 5, none⟩ (.int .u16 (IntKind.u16.wrap (hd : Int))) = w3 at *
        have hhm : IntKind.u16.wrap (hd : Int) = ((hd % 65536 : Nat) : Int) := by
          have e : IntKind.u16.wrap (hd : Int) = (hd : Int) % 65536 := rfl
          rw [e]; omega
        rw [hhm] at HL
        clear hhm
        go_wp2_with fail
        refine (HL.out.word (bytesOf wCo)).mono ?_
        rintro e w9 ⟨rfl, hl, ho⟩
        replace HL := Lib.hid hl
        replace O1 := Lib.hid (own_rb O1.out ho HRL.out)
        replace O2 := Lib.hid (own_rb O2.out ho HRL.out)
        clear hl ho
        generalize wordS us bd (bytesOf wCo) = x0 at *
        obtain ⟨us', bd'⟩ := x0
        replace HC : Hid (RC = endD (sg : Int) tr ps ap hd (allS [] digF us' bd')) := HC.out
        clear us bd
        obtain ⟨us, rfl⟩ : ∃ x, x = us' := ⟨_, rfl⟩
        obtain ⟨bd, rfl⟩ : ∃ x, x = bd' := ⟨_, rfl⟩
        obtain ⟨w3, rfl⟩ : ∃ x, x = w9 := ⟨_, rfl⟩
        go_wp2_with fail
        refine (HL.out.allZ).mono ?_
        rintro e w9 ⟨⟨v4, rfl, ho4⟩, hl, ho⟩
        obtain ⟨a4, c4, rfl⟩ := own_sl ho4
        have O4 : Hid (w9.ownsRow (bx + 1) 3 1 (.slice a4 (allS [] digF us bd).1.length c4) (allS [] digF us bd).1.length (intsV (allS [] digF us bd).1)) := own_base ho4 (heap_lt HL.out.box)
        have K4 : Hid (∀ x ∈ (allS [] digF us bd).1, i64ok x) := digF_ok _ _ _
        replace O1 := Lib.hid (own_rb O1.out ho HRL.out)
        replace O2 := Lib.hid (own_rb O2.out ho HRL.out)
        replace HL := Lib.hid hl
        clear hl ho ho4
        generalize allS [] digF us bd = x0 at *
        obtain ⟨co, us', bd'⟩ := x0
        replace HC : Hid (RC = (⟨(sg : Int), tr, ps, ap, co, hd % 65536⟩, okC bd' us')) := HC.out
        clear us bd
        obtain ⟨us, rfl⟩ : ∃ x, x = us' := ⟨_, rfl⟩
        obtain ⟨bd, rfl⟩ : ∃ x, x = bd' := ⟨_, rfl⟩
        replace O4 : Hid (w9.ownsRow (bx + 1) 3 1 (.slice a4 co.length c4) co.length (intsV co)) := O4.out
        replace K4 : Hid (∀ x ∈ co, i64ok x) := K4.out
        replace O4 := Lib.hid (own_bx (i := 4) (x := .slice a4 co.length c4) O4.out HBL.out)
        have cc := cell_row (j := 4) HL.out.box rfl
        have ff : w9.frozen? ⟨bx, 4, none⟩ = false := frozen_of_row _ _ _ _ _ HL.out.box
        replace HL : Hid (LS sb rb bx all us bd #[.int .i64 (sg : Int), .slice a1 tr.length c1, .slice a2 ps.length c2, .int .i64 ap, .slice a4 co.length c4, .int .u16 ((hd % 65536 : Nat) : Int)] w (w9.setCell ⟨bx, 4, none⟩ (.slice a4 co.length c4))) := HL.out.set 4 (.slice a4 co.length c4)
        replace O1 := Lib.hid (own_bx (i := 4) (x := .slice a4 co.length c4) O1.out HBL.out)
        replace O2 := Lib.hid (own_bx (i := 4) (x := .slice a4 co.length c4) O2.out HBL.out)
        go_upto_region 16 with fail
        clear cc ff
        generalize w9.setCell ⟨bx, 4, none⟩ (.slice a4 co.length c4) = w3 at *
        have hm16 : hd % 65536 < 65536 := Nat.mod_lt _ (by omega)
        generalize hd % 65536 = hm at *
        obtain ⟨vp, vr, zs, h1, h2, h3, h4, h5⟩ := HT.out.at_
        obtain ⟨ra, rc, rfl⟩ := own_sl h3
        have KR : Hid (∀ k, (Value.slice ra zs.length rc).ownBlock = some k → k < sb) := fun k hk => by rw [HSB.out]; exact (h3.lt k hk).2
        have HBW : Hid (Below w.heap.size w w3.drew) := by rw [← HSB.out]; exact HL.out.drew.bel
        have HKD : Hid (w3.drew.heap[tb]? = some (.cells #[.int .i64 T.tracks, vp, .int .i64 T.sigs, .slice ra zs.length rc] 25 (0, 0))) := tb_kept h1 HBW.out
        have HTD : Hid (TM C tb T w3.drew) := HT.out.old HBW.out
        have H2D := Lib.hid (own_old h2 HBW.out); have H3D := Lib.hid (own_old h3 HBW.out)
        have H5D : Hid (∀ z ∈ zs, ZOk C w3.drew z) := fun z hz => (h5 z hz).old HBW.out
        have H4D := Lib.hid h4
        have HLD := Lib.hid HL.out.drew
        have O1D := Lib.hid (own_drew O1.out); have O2D := Lib.hid (own_drew O2.out); have O4D := Lib.hid (own_drew O4.out)
        have hzm : zs.length ≤ 1000000 := by rw [h4, List.length_map] at hp; exact hp
        clear h1 h2 h3 h4 h5 O1 O2 O4
        refine wp_region_T (BoxS tb bx (.slice ra zs.length rc) (.int .i64 (sg : Int)) (.slice a1 tr.length c1) (.slice a2 ps.length c2) (.int .i64 ap) (.slice a4 co.length c4) (.int .u16 (hm : Int))) [10] (by kernel_rfl) ?_
        change wpAnyT _ _ _ _ _ _ _ _ _ (World.drew _)
        generalize w3.drew = wd at *
        clear HL HBW
        have KB : Hid (∀ V : World, V.heap[tb]? = some (.cells #[.int .i64 T.tracks, vp, .int .i64 T.sigs, .slice ra zs.length rc] 25 (0, 0)) → V.heap[bx]? = some (.cells #[.int .i64 (sg : Int), .slice a1 tr.length c1, .slice a2 ps.length c2, .int .i64 ap, .slice a4 co.length c4, .int .u16 (hm : Int)] 30 (0, 0)) → BoxS tb bx (.slice ra zs.length rc) (.int .i64 (sg : Int)) (.slice a1 tr.length c1) (.slice a2 ps.length c2) (.int .i64 ap) (.slice a4 co.length c4) (.int .u16 (hm : Int)) V) := fun V h h' => ⟨cell_row h rfl, cell_row h' rfl, cell_row h' rfl, cell_row h' rfl, cell_row h' rfl, cell_row h' rfl, cell_row h' rfl⟩
        have KS : Hid (∀ V : World, BoxS tb bx (.slice ra zs.length rc) (.int .i64 (sg : Int)) (.slice a1 tr.length c1) (.slice a2 ps.length c2) (.int .i64 ap) (.slice a4 co.length c4) (.int .u16 (hm : Int)) V → (V.cell? ⟨tb, 3, none⟩ = some (.slice ra zs.length rc) ∧ V.cell? ⟨bx, 0, none⟩ = some (.int .i64 (sg : Int)) ∧ V.cell? ⟨bx, 1, none⟩ = some (.slice a1 tr.length c1) ∧ V.cell? ⟨bx, 2, none⟩ = some (.slice a2 ps.length c2) ∧ V.cell? ⟨bx, 3, none⟩ = some (.int .i64 ap) ∧ V.cell? ⟨bx, 4, none⟩ = some (.slice a4 co.length c4) ∧ V.cell? ⟨bx, 5, none⟩ = some (.int .u16 (hm : Int)))) := fun V h => h
        have S1 := KB.out _ HKD.out HLD.out.box
        refine wpAnyT_pure (i := 0) (v := ?_) rfl (by kernel_rfl) (by kernel_rfl) (by kernel_rfl) (by kernel_rfl) (fun _ _ _ h => h) (Or.inl ⟨by kernel_rfl, ?_⟩) (fun _ => by assumption) ?_
        rotate_left
        · intro V hV; clear hV; go_simp; try (with_reducible rfl)
        try simp only [Act.put, List.getElem_toArray, List.getElem_cons_succ, List.getElem_cons_zero, List.setIfInBounds_toArray, List.set_cons_zero, List.set_cons_succ]
        refine wpAnyT_pure (i := 1) (v := ?_) rfl (by kernel_rfl) (by kernel_rfl) (by kernel_rfl) (by kernel_rfl) (fun _ _ _ h => h) (Or.inl ⟨by kernel_rfl, ?_⟩) (fun _ => by assumption) ?_
        rotate_left
        · intro V hV; clear hV; go_simp; try (with_reducible rfl)
        try simp only [Act.put, List.getElem_toArray, List.getElem_cons_succ, List.getElem_cons_zero, List.setIfInBounds_toArray, List.set_cons_zero, List.set_cons_succ]
        refine wpAnyT_pure (i := 2) (v := ?_) rfl (by kernel_rfl) (by kernel_rfl) (by kernel_rfl) (by kernel_rfl) (fun _ _ _ h => h) (Or.inl ⟨by kernel_rfl, ?_⟩) (fun _ => by assumption) ?_
        rotate_left
        · intro V hV; clear hV; go_simp; try (with_reducible rfl)
        try simp only [Act.put, List.getElem_toArray, List.getElem_cons_succ, List.getElem_cons_zero, List.setIfInBounds_toArray, List.set_cons_zero, List.set_cons_succ]
        refine wpAnyT_pure (i := 3) (v := ?_) rfl (by kernel_rfl) (by kernel_rfl) (by kernel_rfl) (by kernel_rfl) (fun _ _ _ h => h) (Or.inl ⟨by kernel_rfl, ?_⟩) (fun _ => by assumption) ?_
        rotate_left
        · intro V hV; clear hV; go_simp; try (with_reducible rfl)
        try simp only [Act.put, List.getElem_toArray, List.getElem_cons_succ, List.getElem_cons_zero, List.setIfInBounds_toArray, List.set_cons_zero, List.set_cons_succ]
        refine wpAnyT_take (i := 4) (v := ?_) rfl (by kernel_rfl) (by kernel_rfl) (by kernel_rfl) (by kernel_rfl) (fun _ _ _ h => h) (Or.inl ⟨by kernel_rfl, ?_⟩) (by assumption) ?_
        rotate_left
        · intro V hV; have k := KS.out V hV; clear hV; go_simp; try (with_reducible rfl)
        try simp only [Act.put, List.getElem_toArray, List.getElem_cons_succ, List.getElem_cons_zero, List.setIfInBounds_toArray, List.set_cons_zero, List.set_cons_succ]
        refine wpAnyT_take (i := 5) (v := ?_) rfl (by kernel_rfl) (by kernel_rfl) (by kernel_rfl) (by kernel_rfl) (fun _ _ _ h => h) (Or.inl ⟨by kernel_rfl, ?_⟩) (by assumption) ?_
        rotate_left
        · intro V hV; have k := KS.out V hV; clear hV; go_simp; try (with_reducible rfl)
        try simp only [Act.put, List.getElem_toArray, List.getElem_cons_succ, List.getElem_cons_zero, List.setIfInBounds_toArray, List.set_cons_zero, List.set_cons_succ]
        refine wpAnyT_one (i := 6) (by kernel_rfl) rfl (fun K hK => ?_)
        go_simp
        have HKA : Hid ((wd.alloc (.cells #[.int .i64 (sg : Int), .slice a1 tr.length c1, .slice a2 ps.length c2, .int .i64 ap, .slice a4 co.length c4, .int .u16 (hm : Int)] 30)).heap[tb]? = some (.cells #[.int .i64 T.tracks, vp, .int .i64 T.sigs, .slice ra zs.length rc] 25 (0, 0))) := tb_kept HKD.out (tb_alloc_below _ _)
        have HBA : Hid ((wd.alloc (.cells #[.int .i64 (sg : Int), .slice a1 tr.length c1, .slice a2 ps.length c2, .int .i64 ap, .slice a4 co.length c4, .int .u16 (hm : Int)] 30)).heap[bx]? = some (.cells #[.int .i64 (sg : Int), .slice a1 tr.length c1, .slice a2 ps.length c2, .int .i64 ap, .slice a4 co.length c4, .int .u16 (hm : Int)] 30 (0, 0))) := tb_kept HLD.out.box (tb_alloc_below _ _)
        refine hK.out _ _ (fun _ => KB.out _ HKA.out HBA.out) ?_
        clear hK K S1
        try simp only [Act.put, List.getElem_toArray, List.getElem_cons_succ, List.getElem_cons_zero, List.setIfInBounds_toArray, List.set_cons_zero, List.set_cons_succ]
        have HOA := Lib.hid (H3D.out.alloc (.cells #[.int .i64 (sg : Int), .slice a1 tr.length c1, .slice a2 ps.length c2, .int .i64 ap, .slice a4 co.length c4, .int .u16 (hm : Int)] 30))
        have HCW : Hid (C ≤ wd.heap.size) := by have := HC0.out; have := HLD.out.wz; have := HLD.out.bel.size; show _ ≤ _; omega
        refine wpAnyT_one (i := 7) (by kernel_rfl) rfl (fun K hK => ?_)
        refine step_append_lies _ (by rfl) _ _ _ (by rfl) C 30 i0 (.agg #[.int .i64 0, .slice none 0 0, .slice none 0 0, .int .i64 0, .slice none 0 0, .int .u16 0]) 6 96 Tryz.underlying23 HIn.out HZ0.out HZ1.out HZ2.out rfl (by omega) _ zs.length (zs.flatMap zC) (by rfl) HOA.out ⟨wd.heap.size, 0, none⟩ 1 1 [.int .i64 (sg : Int), .slice a1 tr.length c1, .slice a2 ps.length c2, .int .i64 ap, .slice a4 co.length c4, .int .u16 (hm : Int)] (by rfl) (by rfl) (World.news_of_block (heap_alloc_new wd _)) (by simp [Value.oneCell']) (by omega) (by unfold maxLen; omega) (by omega) (by have := HCW.out; simp; omega) (wd.heap.size + 1) (by simp) ?_
        intro gg cap w8 hown8 hgrow hat hlt8
        have hOn := grown_only hgrow
        have h8 : w8.heap[tb]? = some (.cells #[.int .i64 T.tracks, vp, .int .i64 T.sigs, .slice ra zs.length rc] 25 (0, 0)) := (hOn.block tb (heap_lt HKD.out) (fun e => own_ne H3D.out HKD.out (by decide) tb e.symm rfl)).trans HKD.out
        have hb8 : w8.heap[bx]? = some (.cells #[.int .i64 (sg : Int), .slice a1 tr.length c1, .slice a2 ps.length c2, .int .i64 ap, .slice a4 co.length c4, .int .u16 (hm : Int)] 30 (0, 0)) := (hOn.block bx (heap_lt HLD.out.box) (fun e => by have := KR.out bx e.symm; have := HLD.out.o1; have := HLD.out.o2; omega)).trans HLD.out.box
        have HR8 : Hid (RdAt rb sb all us bd w8) := by
          obtain ⟨qa, k1, k2⟩ := HLD.out.rd.at_
          exact HLD.out.rd.put ((hOn.block rb (heap_lt k1) (fun e => own_ne H3D.out k1 (by decide) rb e.symm rfl)).trans k1) (hOn.block sb (heap_lt HLD.out.rd.row) (fun e => own_ne H3D.out HLD.out.rd.row (by decide) sb e.symm rfl)) k2
        have HB8 : Hid (Below C w w8) := (HLD.out.bel.mono HC0.out).trans (hOn.below HCW.out (fun i hi e => by have := (H3D.out.lt i e.symm).1; omega))
        have hCb : C ≤ bx + 1 := by have := HC0.out; have := HLD.out.o1; have := HLD.out.o2; omega
        have hz : ZOk C wd (⟨(sg : Int), tr, ps, ap, co, hm⟩, .slice a1 tr.length c1, .slice a2 ps.length c2, .slice a4 co.length c4) := ⟨own_base O1D.out hCb, own_base O2D.out hCb, own_base O4D.out hCb, ⟨by show _ ≤ (sg : Int); omega, by show (sg : Int) ≤ _; omega⟩, KAP.out, hm16, K1.out, K2.out, K4.out⟩
        have HT8 := Lib.hid (HTD.out.addRt HKD.out H2D.out H3D.out H4D.out H5D.out hgrow (z := (⟨(sg : Int), tr, ps, ap, co, hm⟩, .slice a1 tr.length c1, .slice a2 ps.length c2, .slice a4 co.length c4)) (by rw [List.length_append, List.flatMap_append]; exact hown8) hz)
        have e1 : w8.cell? ⟨tb, 3, none⟩ = some (.slice ra zs.length rc) := cell_row h8 rfl
        have g1 : w8.frozen? ⟨tb, 3, none⟩ = false := frozen_of_row _ _ _ _ _ h8
        have S3 := KB.out _ h8 hb8
        refine hK.out _ _ (fun _ => S3) ?_
        clear hK K hown8 hgrow hat hlt8 hOn h8 hb8 HOA HKA HBA hz hCb HTD H2D H3D H4D H5D O1D O2D O4D HKD
        try simp only [Act.put, List.getElem_toArray, List.getElem_cons_succ, List.getElem_cons_zero, List.setIfInBounds_toArray, List.set_cons_zero, List.set_cons_succ]
        refine wpAnyT_pure (i := 8) (v := ?_) rfl (by kernel_rfl) (by kernel_rfl) (by kernel_rfl) (by kernel_rfl) (fun _ _ _ h => h) (Or.inl ⟨by kernel_rfl, ?_⟩) (fun _ => by assumption) ?_
        rotate_left
        · intro V hV; clear hV; go_simp; try (with_reducible rfl)
        try simp only [Act.put, List.getElem_toArray, List.getElem_cons_succ, List.getElem_cons_zero, List.setIfInBounds_toArray, List.set_cons_zero, List.set_cons_succ]
        refine wpAnyT_pure (i := 9) (v := ?_) rfl (by kernel_rfl) (by kernel_rfl) (by kernel_rfl) (by kernel_rfl) (fun _ _ _ h => h) (Or.inl ⟨by kernel_rfl, ?_⟩) (fun _ => by assumption) ?_
        rotate_left
        · intro V hV; clear hV; go_simp; try (with_reducible rfl)
        try simp only [Act.put, List.getElem_toArray, List.getElem_cons_succ, List.getElem_cons_zero, List.setIfInBounds_toArray, List.set_cons_zero, List.set_cons_succ]
        refine wpAnyT_one (i := 10) (by kernel_rfl) rfl (fun K hK => ?_)
        go_simp
        clear S3
        refine hK.out _ _ (fun h => absurd (show false = true from h) (by decide)) ?_
        clear hK K
        try simp only [Act.put, List.getElem_toArray, List.getElem_cons_succ, List.getElem_cons_zero, List.setIfInBounds_toArray, List.set_cons_zero, List.set_cons_succ]
        refine wpAnyT_done (by kernel_rfl) ?_ _
        have HR9 := Lib.hid (HR8.out.other (tb := tb) (i := 3) (x := .slice (some ⟨gg, 0, none⟩) (zs.length + 1) cap) (by have := HTZ.out; have := HLD.out.o1; omega) (by have := HTZ.out; omega))
        have HB9 : Hid (Below C w (w8.setCell ⟨tb, 3, none⟩ (.slice (some ⟨gg, 0, none⟩) (zs.length + 1) cap))) := HB8.out.setCell (p := ⟨tb, 3, none⟩) HT.out.low _
        clear HR8 HB8 e1 g1 KS KB
        generalize w8.setCell ⟨tb, 3, none⟩ (.slice (some ⟨gg, 0, none⟩) (zs.length + 1) cap) = w10 at *
        have HST : Hid (stepT T n s.data.toList = if okC bd us = true then some { T with rts := T.rts ++ [⟨(sg : Int), tr, ps, ap, co, hm⟩] } else none) := by
          show _ = _
          rw [step_route hn HH.out]
          have h := HGV.out
          rw [HC.out] at h
          rw [show rtT (partL 32 s.data.toList) = if okC bd us = true then some ⟨(sg : Int), tr, ps, ap, co, hm⟩ else none from h]
          cases okC bd us <;> rfl
        have HFIN : Hid (∀ ok, ok = okC bd us → LineP C tb T n s.data.toList w (.returned (.bool ok)) w10) := fun ok hok => by
          refine ⟨⟨ok, rfl, fun T' h => ?_, fun h => ?_⟩, HB9.out⟩
          · rw [HST.out] at h
            subst hok
            cases hb : okC bd us with
            | true => rw [hb] at h; obtain rfl := Option.some.inj h; exact ⟨rfl, HT8.out⟩
            | false => rw [hb] at h; cases h
          · rw [HST.out] at h
            subst hok
            cases hb : okC bd us with
            | true => rw [hb] at h; cases h
            | false => rfl
        clear HST HC HGV HT8 HB9 HT HH HLD
        go_upto_region 26 with fail
        cases bd with
        | true =>
          obtain ⟨ra, hr, _⟩ := HR9.out.at_
          have c1 : w10.cell? ⟨rb, 1, none⟩ = some (.bool true) := cell_row hr rfl
          clear hr
          go_wp2_with fail
          go_ret
          exact HFIN.out false rfl
        | false =>
          cases us with
          | nil =>
            obtain ⟨ra, hr⟩ := HR9.out.nil
            have c1 : w10.cell? ⟨rb, 1, none⟩ = some (.bool false) := cell_row hr rfl
            have c0 : w10.cell? ⟨rb, 0, none⟩ = some (.slice ra 0 0) := cell_row hr rfl
            clear hr
            go_wp2_with fail
            go_ret
            exact HFIN.out true rfl
          | cons q0 r0 =>
            obtain ⟨o0, hr, _, _, _⟩ := HR9.out.head
            have hl0 : r0.length + 1 ≤ 1000000 := by have := HR9.out.left; simpa using this
            have c1 : w10.cell? ⟨rb, 1, none⟩ = some (.bool false) := cell_row hr rfl
            have c0 : w10.cell? ⟨rb, 0, none⟩ = some (.slice (some ⟨sb, o0, none⟩) (r0.length + 1) (r0.length + 1)) := cell_row hr rfl
            have t0 : ((r0.length : Int) + 1 == 0) = false := beq_eq_false_iff_ne.2 (by omega)
            clear hr
            go_wp2_with fail
            go_ret
            exact HFIN.out false rfl
end Go.Proofs.YtpodedhnlicckaaGreatDoor
