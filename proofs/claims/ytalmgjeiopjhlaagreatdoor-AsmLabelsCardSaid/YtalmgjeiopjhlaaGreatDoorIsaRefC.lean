/- The document's Text. (Printed by gen_rtext.py.) -/
import Derived.Test.YtalmgjeiopjhlaaGreatDoorIsaRefA
namespace Go.Proofs.YtalmgjeiopjhlaaGreatDoor
open Go.RowKit
set_option linter.unusedVariables false
set_option linter.unusedSimpArgs false
theorem app_assoc3 (a b c : ByteArray) : a ++ (b ++ c) = a ++ b ++ c := (ByteArray.append_assoc).symm
theorem text_4 (s : ByteArray) (a b c : Nat) : textN 4 s a b c = s ++ blank ++ decS c := by rw [← app_assoc3]; rfl
theorem text_12 (s : ByteArray) (a b c : Nat) : textN 12 s a b c = s ++ decS a ++ blank ++ decS c := by rw [← app_assoc3]; rfl
theorem text_1 (s : ByteArray) (a b c : Nat) : textN 1 s a b c = s ++ blank ++ decS a := by rw [← app_assoc3]; rfl
theorem text_3 (s : ByteArray) (a b c : Nat) : textN 3 s a b c = s ++ blank ++ decS a ++ blank ++ decS b := by
  show s ++ (blank ++ decS a) ++ (blank ++ decS b) = _
  rw [app_assoc3, app_assoc3]
theorem text_0 (s : ByteArray) (a b c : Nat) : textN 0 s a b c = s := rfl
set_option maxHeartbeats 4000000 in
set_option maxRecDepth 100000 in
theorem rtext_any (i : Ins) (w : World) (h : i.ok) :
    Calls Tryz.prog 56 #[i.val] w fun e w' => e = .returned (.string i.text) ∧ Below w.heap.size w w' := by
  obtain ⟨wa, hwa⟩ : ∃ x, x = w.alloc (.cells #[.int .u8 (i.op : Int), .int .u8 (i.a : Int), .int .u16 (i.b : Int), .int .u32 (i.c : Int)] 32) := ⟨_, rfl⟩
  have HM : Hid (Calls Tryz.prog 30 #[.agg #[.int .u8 (i.op : Int), .int .u8 (i.a : Int), .int .u16 (i.b : Int), .int .u32 (i.c : Int)]] wa fun e w' => e = .returned (.bool i.may) ∧ Below wa.heap.size wa w') := rmay_any i wa h
  have hw0 : Hid (wa.heap[w.heap.size]? = some (.cells #[.int .u8 (i.op : Int), .int .u8 (i.a : Int), .int .u16 (i.b : Int), .int .u32 (i.c : Int)] 32 (0, 0))) := by rw [hwa]; exact heap_alloc_new _ _
  have BA : Hid (Below w.heap.size w wa) := by rw [hwa]; exact alloc_below _ _
  have hlt := heap_lt hw0.out
  have HWA := Lib.hid hwa
  have ha8 := h.a
  have hb16 := h.b
  have hc32 := h.c
  have HDA : Hid (∀ W, Calls Tryz.prog 83 #[.int .u32 (i.a : Int)] W fun e w' => e = .returned (.string (decS i.a)) ∧ Below W.heap.size W w') := fun W => digits_any i.a (by omega) W
  have HDB : Hid (∀ W, Calls Tryz.prog 83 #[.int .u32 (i.b : Int)] W fun e w' => e = .returned (.string (decS i.b)) ∧ Below W.heap.size W w') := fun W => digits_any i.b (by omega) W
  have HDC : Hid (∀ W, Calls Tryz.prog 83 #[.int .u32 (i.c : Int)] W fun e w' => e = .returned (.string (decS i.c)) ∧ Below W.heap.size W w') := fun W => digits_any i.c (by omega) W
  have sA := decS_size i.a (by omega)
  have sB := decS_size i.b (by omega)
  have sC := decS_size i.c (by omega)
  have sN := nameS_size i.op
  have sK : blank.size = 1 := rfl
  clear hwa
  unfold Ins.val
  cases hm : i.may
  case false =>
    have E : i.text = ⟨#[]⟩ := by unfold Ins.text; rw [hm]; rfl
    rw [E]
    rw [hm] at HM
    clear E hm
    go_enter Tryz.func56, Tryz.ntmps56
    have z0 := cell_row (j := 0) hw0.out rfl
    have z1 := cell_row (j := 1) hw0.out rfl
    have z2 := cell_row (j := 2) hw0.out rfl
    have z3 := cell_row (j := 3) hw0.out rfl
    go_wp2_with fail
    rw [← HWA.out]
    generalize hgb : w.heap.size = gb at *
    refine HM.out.mono ?_
    rintro e w1 ⟨rfl, hb⟩
    have B1 : Hid (Below gb w w1) := BA.out.trans (hb.mono (Nat.le_of_lt hlt))
    have I1 : Hid (w1.heap[gb]? = some (.cells #[.int .u8 (i.op : Int), .int .u8 (i.a : Int), .int .u16 (i.b : Int), .int .u32 (i.c : Int)] 32 (0, 0))) := (hb.block gb hlt).trans hw0.out
    clear hb z0 z1 z2 z3
    clear I1
    go_wp2_with fail
    go_ret
    exact ⟨rfl, by first | exact B1.out | (rw [hgb]; exact B1.out)⟩
  case true =>
  rw [hm] at HM
  have HT : i.text = textN (rowAt i.op).nm (nameS i.op) i.a i.b i.c := by unfold Ins.text; rw [hm]; rfl
  obtain ⟨hn, ho, -, -⟩ := may_row hm
  have HOP28 : Hid (i.op < 28) := ho
  have hz : i.op ≠ 0 := by
    intro e
    rw [e] at hn
    exact hn rfl
  clear hn hm
  by_cases o1 : i.op = 1
  case pos =>
    have hnm : (rowAt i.op).nm = 4 := by rw [o1]; rfl
    rw [hnm, text_4] at HT
    have HE := Lib.hid HT
    have q1 : ((i.op : Int) == 1) = true := by simp; omega
    have q19 : ((i.op : Int) == 19) = false := by simp; omega
    have q20 : ((i.op : Int) == 20) = false := by simp; omega
    have q17 : ((i.op : Int) == 17) = false := by simp; omega
    have q18 : ((i.op : Int) == 18) = false := by simp; omega
    have q21 : ((i.op : Int) == 21) = false := by simp; omega
    have q22 : ((i.op : Int) == 22) = false := by simp; omega
    have q24 : ((i.op : Int) == 24) = false := by simp; omega
    have q26 : ((i.op : Int) == 26) = false := by simp; omega
    have q23 : ((i.op : Int) == 23) = false := by simp; omega
    have q25 : ((i.op : Int) == 25) = false := by simp; omega
    clear hnm HT hz ho o1 
    go_enter Tryz.func56, Tryz.ntmps56
    have z0 := cell_row (j := 0) hw0.out rfl
    have z1 := cell_row (j := 1) hw0.out rfl
    have z2 := cell_row (j := 2) hw0.out rfl
    have z3 := cell_row (j := 3) hw0.out rfl
    go_wp2_with fail
    rw [← HWA.out]
    generalize hgb : w.heap.size = gb at *
    refine HM.out.mono ?_
    rintro e w1 ⟨rfl, hb⟩
    have B1 : Hid (Below gb w w1) := BA.out.trans (hb.mono (Nat.le_of_lt hlt))
    have I1 : Hid (w1.heap[gb]? = some (.cells #[.int .u8 (i.op : Int), .int .u8 (i.a : Int), .int .u16 (i.b : Int), .int .u32 (i.c : Int)] 32 (0, 0))) := (hb.block gb hlt).trans hw0.out
    clear hb z0 z1 z2 z3
    go_upto_region 3 with fail
    have z0 := cell_row (j := 0) I1.out rfl
    have z1 := cell_row (j := 1) I1.out rfl
    have z2 := cell_row (j := 2) I1.out rfl
    have z3 := cell_row (j := 3) I1.out rfl
    have z4 := heap_lt I1.out
    have HNA : Hid (Calls Tryz.prog 55 #[] w1.drew fun e w' => (∃ g, e = .returned (.slice (some ⟨g, 0, none⟩) 28 28) ∧ w'.cell? ⟨g, i.op, none⟩ = some (.string (nameS i.op))) ∧ Below w1.heap.size w1 w') := by
      refine (names_any w1.drew).mono ?_
      rintro e w' ⟨⟨g, he, hg⟩, hb⟩
      exact ⟨⟨g, he, cell_row hg (names_at _ HOP28.out)⟩, ⟨hb.os, hb.tape, hb.output, hb.size, hb.block⟩⟩
    have hop : i.op < 28 := HOP28.out
    go_region_with (go_at_call 55; (with_reducible refine HNA.out.mono ?_); rintro e w2 ⟨⟨g, rfl, hgc⟩, hbe⟩; have B2 : Hid (Below gb w w2) := B1.out.trans (hbe.mono (Nat.le_of_lt (heap_lt I1.out))); have I2 := Lib.hid (kept I1.out hbe); have c0 := cell_row (j := 0) I2.out rfl; have c4 := heap_lt I2.out; clear hbe)
    all_goals
      clear HNA I1 B1 hgc z0 z1 z2 z3 z4 c0 c4
      generalize nameS i.op = ns at *
      have z0 := cell_row (j := 0) I2.out rfl
      have z1 := cell_row (j := 1) I2.out rfl
      have z2 := cell_row (j := 2) I2.out rfl
      have z3 := cell_row (j := 3) I2.out rfl
      have z4 := heap_lt I2.out
      go_wp2_with fail
      refine (HDA.out w2).mono ?_
      rintro e w3 ⟨rfl, hb⟩
      have B3 : Hid (Below gb w w3) := B2.out.trans (hb.mono (Nat.le_of_lt (heap_lt I2.out)))
      have I3 := Lib.hid (kept I2.out hb)
      clear hb z0 z1 z2 z3 z4 I2 B2
      have z0 := cell_row (j := 0) I3.out rfl
      have z1 := cell_row (j := 1) I3.out rfl
      have z2 := cell_row (j := 2) I3.out rfl
      have z3 := cell_row (j := 3) I3.out rfl
      have z4 := heap_lt I3.out
      go_wp2_with fail
      refine (HDC.out w3).mono ?_
      rintro e w4 ⟨rfl, hb⟩
      have B4 : Hid (Below gb w w4) := B3.out.trans (hb.mono (Nat.le_of_lt (heap_lt I3.out)))
      have I4 := Lib.hid (kept I3.out hb)
      clear hb z0 z1 z2 z3 z4 I3 B3
      go_wp2_with fail
      go_ret
      exact ⟨by rw [HE.out]; first | done | rfl, by first | exact B4.out | (rw [hgb]; exact B4.out)⟩
  by_cases o19 : i.op = 19
  case pos =>
    have hnm : (rowAt i.op).nm = 4 := by rw [o19]; rfl
    rw [hnm, text_4] at HT
    have HE := Lib.hid HT
    have q1 : ((i.op : Int) == 1) = false := by simp; omega
    have q19 : ((i.op : Int) == 19) = true := by simp; omega
    have q20 : ((i.op : Int) == 20) = false := by simp; omega
    have q17 : ((i.op : Int) == 17) = false := by simp; omega
    have q18 : ((i.op : Int) == 18) = false := by simp; omega
    have q21 : ((i.op : Int) == 21) = false := by simp; omega
    have q22 : ((i.op : Int) == 22) = false := by simp; omega
    have q24 : ((i.op : Int) == 24) = false := by simp; omega
    have q26 : ((i.op : Int) == 26) = false := by simp; omega
    have q23 : ((i.op : Int) == 23) = false := by simp; omega
    have q25 : ((i.op : Int) == 25) = false := by simp; omega
    clear hnm HT hz ho o19 o1
    go_enter Tryz.func56, Tryz.ntmps56
    have z0 := cell_row (j := 0) hw0.out rfl
    have z1 := cell_row (j := 1) hw0.out rfl
    have z2 := cell_row (j := 2) hw0.out rfl
    have z3 := cell_row (j := 3) hw0.out rfl
    go_wp2_with fail
    rw [← HWA.out]
    generalize hgb : w.heap.size = gb at *
    refine HM.out.mono ?_
    rintro e w1 ⟨rfl, hb⟩
    have B1 : Hid (Below gb w w1) := BA.out.trans (hb.mono (Nat.le_of_lt hlt))
    have I1 : Hid (w1.heap[gb]? = some (.cells #[.int .u8 (i.op : Int), .int .u8 (i.a : Int), .int .u16 (i.b : Int), .int .u32 (i.c : Int)] 32 (0, 0))) := (hb.block gb hlt).trans hw0.out
    clear hb z0 z1 z2 z3
    go_upto_region 3 with fail
    have z0 := cell_row (j := 0) I1.out rfl
    have z1 := cell_row (j := 1) I1.out rfl
    have z2 := cell_row (j := 2) I1.out rfl
    have z3 := cell_row (j := 3) I1.out rfl
    have z4 := heap_lt I1.out
    have HNA : Hid (Calls Tryz.prog 55 #[] w1.drew fun e w' => (∃ g, e = .returned (.slice (some ⟨g, 0, none⟩) 28 28) ∧ w'.cell? ⟨g, i.op, none⟩ = some (.string (nameS i.op))) ∧ Below w1.heap.size w1 w') := by
      refine (names_any w1.drew).mono ?_
      rintro e w' ⟨⟨g, he, hg⟩, hb⟩
      exact ⟨⟨g, he, cell_row hg (names_at _ HOP28.out)⟩, ⟨hb.os, hb.tape, hb.output, hb.size, hb.block⟩⟩
    have hop : i.op < 28 := HOP28.out
    go_region_with (go_at_call 55; (with_reducible refine HNA.out.mono ?_); rintro e w2 ⟨⟨g, rfl, hgc⟩, hbe⟩; have B2 : Hid (Below gb w w2) := B1.out.trans (hbe.mono (Nat.le_of_lt (heap_lt I1.out))); have I2 := Lib.hid (kept I1.out hbe); have c0 := cell_row (j := 0) I2.out rfl; have c4 := heap_lt I2.out; clear hbe)
    all_goals
      clear HNA I1 B1 hgc z0 z1 z2 z3 z4 c0 c4
      generalize nameS i.op = ns at *
      have z0 := cell_row (j := 0) I2.out rfl
      have z1 := cell_row (j := 1) I2.out rfl
      have z2 := cell_row (j := 2) I2.out rfl
      have z3 := cell_row (j := 3) I2.out rfl
      have z4 := heap_lt I2.out
      go_wp2_with fail
      refine (HDA.out w2).mono ?_
      rintro e w3 ⟨rfl, hb⟩
      have B3 : Hid (Below gb w w3) := B2.out.trans (hb.mono (Nat.le_of_lt (heap_lt I2.out)))
      have I3 := Lib.hid (kept I2.out hb)
      clear hb z0 z1 z2 z3 z4 I2 B2
      have z0 := cell_row (j := 0) I3.out rfl
      have z1 := cell_row (j := 1) I3.out rfl
      have z2 := cell_row (j := 2) I3.out rfl
      have z3 := cell_row (j := 3) I3.out rfl
      have z4 := heap_lt I3.out
      go_wp2_with fail
      refine (HDC.out w3).mono ?_
      rintro e w4 ⟨rfl, hb⟩
      have B4 : Hid (Below gb w w4) := B3.out.trans (hb.mono (Nat.le_of_lt (heap_lt I3.out)))
      have I4 := Lib.hid (kept I3.out hb)
      clear hb z0 z1 z2 z3 z4 I3 B3
      go_wp2_with fail
      go_ret
      exact ⟨by rw [HE.out]; first | done | rfl, by first | exact B4.out | (rw [hgb]; exact B4.out)⟩
  by_cases o20 : i.op = 20
  case pos =>
    have hnm : (rowAt i.op).nm = 4 := by rw [o20]; rfl
    rw [hnm, text_4] at HT
    have HE := Lib.hid HT
    have q1 : ((i.op : Int) == 1) = false := by simp; omega
    have q19 : ((i.op : Int) == 19) = false := by simp; omega
    have q20 : ((i.op : Int) == 20) = true := by simp; omega
    have q17 : ((i.op : Int) == 17) = false := by simp; omega
    have q18 : ((i.op : Int) == 18) = false := by simp; omega
    have q21 : ((i.op : Int) == 21) = false := by simp; omega
    have q22 : ((i.op : Int) == 22) = false := by simp; omega
    have q24 : ((i.op : Int) == 24) = false := by simp; omega
    have q26 : ((i.op : Int) == 26) = false := by simp; omega
    have q23 : ((i.op : Int) == 23) = false := by simp; omega
    have q25 : ((i.op : Int) == 25) = false := by simp; omega
    clear hnm HT hz ho o20 o1 o19
    go_enter Tryz.func56, Tryz.ntmps56
    have z0 := cell_row (j := 0) hw0.out rfl
    have z1 := cell_row (j := 1) hw0.out rfl
    have z2 := cell_row (j := 2) hw0.out rfl
    have z3 := cell_row (j := 3) hw0.out rfl
    go_wp2_with fail
    rw [← HWA.out]
    generalize hgb : w.heap.size = gb at *
    refine HM.out.mono ?_
    rintro e w1 ⟨rfl, hb⟩
    have B1 : Hid (Below gb w w1) := BA.out.trans (hb.mono (Nat.le_of_lt hlt))
    have I1 : Hid (w1.heap[gb]? = some (.cells #[.int .u8 (i.op : Int), .int .u8 (i.a : Int), .int .u16 (i.b : Int), .int .u32 (i.c : Int)] 32 (0, 0))) := (hb.block gb hlt).trans hw0.out
    clear hb z0 z1 z2 z3
    go_upto_region 3 with fail
    have z0 := cell_row (j := 0) I1.out rfl
    have z1 := cell_row (j := 1) I1.out rfl
    have z2 := cell_row (j := 2) I1.out rfl
    have z3 := cell_row (j := 3) I1.out rfl
    have z4 := heap_lt I1.out
    have HNA : Hid (Calls Tryz.prog 55 #[] w1.drew fun e w' => (∃ g, e = .returned (.slice (some ⟨g, 0, none⟩) 28 28) ∧ w'.cell? ⟨g, i.op, none⟩ = some (.string (nameS i.op))) ∧ Below w1.heap.size w1 w') := by
      refine (names_any w1.drew).mono ?_
      rintro e w' ⟨⟨g, he, hg⟩, hb⟩
      exact ⟨⟨g, he, cell_row hg (names_at _ HOP28.out)⟩, ⟨hb.os, hb.tape, hb.output, hb.size, hb.block⟩⟩
    have hop : i.op < 28 := HOP28.out
    go_region_with (go_at_call 55; (with_reducible refine HNA.out.mono ?_); rintro e w2 ⟨⟨g, rfl, hgc⟩, hbe⟩; have B2 : Hid (Below gb w w2) := B1.out.trans (hbe.mono (Nat.le_of_lt (heap_lt I1.out))); have I2 := Lib.hid (kept I1.out hbe); have c0 := cell_row (j := 0) I2.out rfl; have c4 := heap_lt I2.out; clear hbe)
    all_goals
      clear HNA I1 B1 hgc z0 z1 z2 z3 z4 c0 c4
      generalize nameS i.op = ns at *
      have z0 := cell_row (j := 0) I2.out rfl
      have z1 := cell_row (j := 1) I2.out rfl
      have z2 := cell_row (j := 2) I2.out rfl
      have z3 := cell_row (j := 3) I2.out rfl
      have z4 := heap_lt I2.out
      go_wp2_with fail
      refine (HDA.out w2).mono ?_
      rintro e w3 ⟨rfl, hb⟩
      have B3 : Hid (Below gb w w3) := B2.out.trans (hb.mono (Nat.le_of_lt (heap_lt I2.out)))
      have I3 := Lib.hid (kept I2.out hb)
      clear hb z0 z1 z2 z3 z4 I2 B2
      have z0 := cell_row (j := 0) I3.out rfl
      have z1 := cell_row (j := 1) I3.out rfl
      have z2 := cell_row (j := 2) I3.out rfl
      have z3 := cell_row (j := 3) I3.out rfl
      have z4 := heap_lt I3.out
      go_wp2_with fail
      refine (HDC.out w3).mono ?_
      rintro e w4 ⟨rfl, hb⟩
      have B4 : Hid (Below gb w w4) := B3.out.trans (hb.mono (Nat.le_of_lt (heap_lt I3.out)))
      have I4 := Lib.hid (kept I3.out hb)
      clear hb z0 z1 z2 z3 z4 I3 B3
      go_wp2_with fail
      go_ret
      exact ⟨by rw [HE.out]; first | done | rfl, by first | exact B4.out | (rw [hgb]; exact B4.out)⟩
  by_cases o17 : i.op = 17
  case pos =>
    have hnm : (rowAt i.op).nm = 12 := by rw [o17]; rfl
    rw [hnm, text_12] at HT
    have HE := Lib.hid HT
    have q1 : ((i.op : Int) == 1) = false := by simp; omega
    have q19 : ((i.op : Int) == 19) = false := by simp; omega
    have q20 : ((i.op : Int) == 20) = false := by simp; omega
    have q17 : ((i.op : Int) == 17) = true := by simp; omega
    have q18 : ((i.op : Int) == 18) = false := by simp; omega
    have q21 : ((i.op : Int) == 21) = false := by simp; omega
    have q22 : ((i.op : Int) == 22) = false := by simp; omega
    have q24 : ((i.op : Int) == 24) = false := by simp; omega
    have q26 : ((i.op : Int) == 26) = false := by simp; omega
    have q23 : ((i.op : Int) == 23) = false := by simp; omega
    have q25 : ((i.op : Int) == 25) = false := by simp; omega
    clear hnm HT hz ho o17 o1 o19 o20
    go_enter Tryz.func56, Tryz.ntmps56
    have z0 := cell_row (j := 0) hw0.out rfl
    have z1 := cell_row (j := 1) hw0.out rfl
    have z2 := cell_row (j := 2) hw0.out rfl
    have z3 := cell_row (j := 3) hw0.out rfl
    go_wp2_with fail
    rw [← HWA.out]
    generalize hgb : w.heap.size = gb at *
    refine HM.out.mono ?_
    rintro e w1 ⟨rfl, hb⟩
    have B1 : Hid (Below gb w w1) := BA.out.trans (hb.mono (Nat.le_of_lt hlt))
    have I1 : Hid (w1.heap[gb]? = some (.cells #[.int .u8 (i.op : Int), .int .u8 (i.a : Int), .int .u16 (i.b : Int), .int .u32 (i.c : Int)] 32 (0, 0))) := (hb.block gb hlt).trans hw0.out
    clear hb z0 z1 z2 z3
    go_upto_region 3 with fail
    have z0 := cell_row (j := 0) I1.out rfl
    have z1 := cell_row (j := 1) I1.out rfl
    have z2 := cell_row (j := 2) I1.out rfl
    have z3 := cell_row (j := 3) I1.out rfl
    have z4 := heap_lt I1.out
    have HNA : Hid (Calls Tryz.prog 55 #[] w1.drew fun e w' => (∃ g, e = .returned (.slice (some ⟨g, 0, none⟩) 28 28) ∧ w'.cell? ⟨g, i.op, none⟩ = some (.string (nameS i.op))) ∧ Below w1.heap.size w1 w') := by
      refine (names_any w1.drew).mono ?_
      rintro e w' ⟨⟨g, he, hg⟩, hb⟩
      exact ⟨⟨g, he, cell_row hg (names_at _ HOP28.out)⟩, ⟨hb.os, hb.tape, hb.output, hb.size, hb.block⟩⟩
    have hop : i.op < 28 := HOP28.out
    go_region_with (go_at_call 55; (with_reducible refine HNA.out.mono ?_); rintro e w2 ⟨⟨g, rfl, hgc⟩, hbe⟩; have B2 : Hid (Below gb w w2) := B1.out.trans (hbe.mono (Nat.le_of_lt (heap_lt I1.out))); have I2 := Lib.hid (kept I1.out hbe); have c0 := cell_row (j := 0) I2.out rfl; have c4 := heap_lt I2.out; clear hbe)
    all_goals
      clear HNA I1 B1 hgc z0 z1 z2 z3 z4 c0 c4
      generalize nameS i.op = ns at *
      have z0 := cell_row (j := 0) I2.out rfl
      have z1 := cell_row (j := 1) I2.out rfl
      have z2 := cell_row (j := 2) I2.out rfl
      have z3 := cell_row (j := 3) I2.out rfl
      have z4 := heap_lt I2.out
      go_wp2_with fail
      refine (HDA.out w2).mono ?_
      rintro e w3 ⟨rfl, hb⟩
      have B3 : Hid (Below gb w w3) := B2.out.trans (hb.mono (Nat.le_of_lt (heap_lt I2.out)))
      have I3 := Lib.hid (kept I2.out hb)
      clear hb z0 z1 z2 z3 z4 I2 B2
      have z0 := cell_row (j := 0) I3.out rfl
      have z1 := cell_row (j := 1) I3.out rfl
      have z2 := cell_row (j := 2) I3.out rfl
      have z3 := cell_row (j := 3) I3.out rfl
      have z4 := heap_lt I3.out
      go_wp2_with fail
      refine (HDC.out w3).mono ?_
      rintro e w4 ⟨rfl, hb⟩
      have B4 : Hid (Below gb w w4) := B3.out.trans (hb.mono (Nat.le_of_lt (heap_lt I3.out)))
      have I4 := Lib.hid (kept I3.out hb)
      clear hb z0 z1 z2 z3 z4 I3 B3
      go_wp2_with fail
      go_ret
      exact ⟨by rw [HE.out]; first | done | rfl, by first | exact B4.out | (rw [hgb]; exact B4.out)⟩
  by_cases o18 : i.op = 18
  case pos =>
    have hnm : (rowAt i.op).nm = 12 := by rw [o18]; rfl
    rw [hnm, text_12] at HT
    have HE := Lib.hid HT
    have q1 : ((i.op : Int) == 1) = false := by simp; omega
    have q19 : ((i.op : Int) == 19) = false := by simp; omega
    have q20 : ((i.op : Int) == 20) = false := by simp; omega
    have q17 : ((i.op : Int) == 17) = false := by simp; omega
    have q18 : ((i.op : Int) == 18) = true := by simp; omega
    have q21 : ((i.op : Int) == 21) = false := by simp; omega
    have q22 : ((i.op : Int) == 22) = false := by simp; omega
    have q24 : ((i.op : Int) == 24) = false := by simp; omega
    have q26 : ((i.op : Int) == 26) = false := by simp; omega
    have q23 : ((i.op : Int) == 23) = false := by simp; omega
    have q25 : ((i.op : Int) == 25) = false := by simp; omega
    clear hnm HT hz ho o18 o1 o19 o20 o17
    go_enter Tryz.func56, Tryz.ntmps56
    have z0 := cell_row (j := 0) hw0.out rfl
    have z1 := cell_row (j := 1) hw0.out rfl
    have z2 := cell_row (j := 2) hw0.out rfl
    have z3 := cell_row (j := 3) hw0.out rfl
    go_wp2_with fail
    rw [← HWA.out]
    generalize hgb : w.heap.size = gb at *
    refine HM.out.mono ?_
    rintro e w1 ⟨rfl, hb⟩
    have B1 : Hid (Below gb w w1) := BA.out.trans (hb.mono (Nat.le_of_lt hlt))
    have I1 : Hid (w1.heap[gb]? = some (.cells #[.int .u8 (i.op : Int), .int .u8 (i.a : Int), .int .u16 (i.b : Int), .int .u32 (i.c : Int)] 32 (0, 0))) := (hb.block gb hlt).trans hw0.out
    clear hb z0 z1 z2 z3
    go_upto_region 3 with fail
    have z0 := cell_row (j := 0) I1.out rfl
    have z1 := cell_row (j := 1) I1.out rfl
    have z2 := cell_row (j := 2) I1.out rfl
    have z3 := cell_row (j := 3) I1.out rfl
    have z4 := heap_lt I1.out
    have HNA : Hid (Calls Tryz.prog 55 #[] w1.drew fun e w' => (∃ g, e = .returned (.slice (some ⟨g, 0, none⟩) 28 28) ∧ w'.cell? ⟨g, i.op, none⟩ = some (.string (nameS i.op))) ∧ Below w1.heap.size w1 w') := by
      refine (names_any w1.drew).mono ?_
      rintro e w' ⟨⟨g, he, hg⟩, hb⟩
      exact ⟨⟨g, he, cell_row hg (names_at _ HOP28.out)⟩, ⟨hb.os, hb.tape, hb.output, hb.size, hb.block⟩⟩
    have hop : i.op < 28 := HOP28.out
    go_region_with (go_at_call 55; (with_reducible refine HNA.out.mono ?_); rintro e w2 ⟨⟨g, rfl, hgc⟩, hbe⟩; have B2 : Hid (Below gb w w2) := B1.out.trans (hbe.mono (Nat.le_of_lt (heap_lt I1.out))); have I2 := Lib.hid (kept I1.out hbe); have c0 := cell_row (j := 0) I2.out rfl; have c4 := heap_lt I2.out; clear hbe)
    all_goals
      clear HNA I1 B1 hgc z0 z1 z2 z3 z4 c0 c4
      generalize nameS i.op = ns at *
      have z0 := cell_row (j := 0) I2.out rfl
      have z1 := cell_row (j := 1) I2.out rfl
      have z2 := cell_row (j := 2) I2.out rfl
      have z3 := cell_row (j := 3) I2.out rfl
      have z4 := heap_lt I2.out
      go_wp2_with fail
      refine (HDA.out w2).mono ?_
      rintro e w3 ⟨rfl, hb⟩
      have B3 : Hid (Below gb w w3) := B2.out.trans (hb.mono (Nat.le_of_lt (heap_lt I2.out)))
      have I3 := Lib.hid (kept I2.out hb)
      clear hb z0 z1 z2 z3 z4 I2 B2
      have z0 := cell_row (j := 0) I3.out rfl
      have z1 := cell_row (j := 1) I3.out rfl
      have z2 := cell_row (j := 2) I3.out rfl
      have z3 := cell_row (j := 3) I3.out rfl
      have z4 := heap_lt I3.out
      go_wp2_with fail
      refine (HDC.out w3).mono ?_
      rintro e w4 ⟨rfl, hb⟩
      have B4 : Hid (Below gb w w4) := B3.out.trans (hb.mono (Nat.le_of_lt (heap_lt I3.out)))
      have I4 := Lib.hid (kept I3.out hb)
      clear hb z0 z1 z2 z3 z4 I3 B3
      go_wp2_with fail
      go_ret
      exact ⟨by rw [HE.out]; first | done | rfl, by first | exact B4.out | (rw [hgb]; exact B4.out)⟩
  by_cases o21 : i.op = 21
  case pos =>
    have hnm : (rowAt i.op).nm = 1 := by rw [o21]; rfl
    rw [hnm, text_1] at HT
    have HE := Lib.hid HT
    have q1 : ((i.op : Int) == 1) = false := by simp; omega
    have q19 : ((i.op : Int) == 19) = false := by simp; omega
    have q20 : ((i.op : Int) == 20) = false := by simp; omega
    have q17 : ((i.op : Int) == 17) = false := by simp; omega
    have q18 : ((i.op : Int) == 18) = false := by simp; omega
    have q21 : ((i.op : Int) == 21) = true := by simp; omega
    have q22 : ((i.op : Int) == 22) = false := by simp; omega
    have q24 : ((i.op : Int) == 24) = false := by simp; omega
    have q26 : ((i.op : Int) == 26) = false := by simp; omega
    have q23 : ((i.op : Int) == 23) = false := by simp; omega
    have q25 : ((i.op : Int) == 25) = false := by simp; omega
    clear hnm HT hz ho o21 o1 o19 o20 o17 o18
    go_enter Tryz.func56, Tryz.ntmps56
    have z0 := cell_row (j := 0) hw0.out rfl
    have z1 := cell_row (j := 1) hw0.out rfl
    have z2 := cell_row (j := 2) hw0.out rfl
    have z3 := cell_row (j := 3) hw0.out rfl
    go_wp2_with fail
    rw [← HWA.out]
    generalize hgb : w.heap.size = gb at *
    refine HM.out.mono ?_
    rintro e w1 ⟨rfl, hb⟩
    have B1 : Hid (Below gb w w1) := BA.out.trans (hb.mono (Nat.le_of_lt hlt))
    have I1 : Hid (w1.heap[gb]? = some (.cells #[.int .u8 (i.op : Int), .int .u8 (i.a : Int), .int .u16 (i.b : Int), .int .u32 (i.c : Int)] 32 (0, 0))) := (hb.block gb hlt).trans hw0.out
    clear hb z0 z1 z2 z3
    go_upto_region 3 with fail
    have z0 := cell_row (j := 0) I1.out rfl
    have z1 := cell_row (j := 1) I1.out rfl
    have z2 := cell_row (j := 2) I1.out rfl
    have z3 := cell_row (j := 3) I1.out rfl
    have z4 := heap_lt I1.out
    have HNA : Hid (Calls Tryz.prog 55 #[] w1.drew fun e w' => (∃ g, e = .returned (.slice (some ⟨g, 0, none⟩) 28 28) ∧ w'.cell? ⟨g, i.op, none⟩ = some (.string (nameS i.op))) ∧ Below w1.heap.size w1 w') := by
      refine (names_any w1.drew).mono ?_
      rintro e w' ⟨⟨g, he, hg⟩, hb⟩
      exact ⟨⟨g, he, cell_row hg (names_at _ HOP28.out)⟩, ⟨hb.os, hb.tape, hb.output, hb.size, hb.block⟩⟩
    have hop : i.op < 28 := HOP28.out
    go_region_with (go_at_call 55; (with_reducible refine HNA.out.mono ?_); rintro e w2 ⟨⟨g, rfl, hgc⟩, hbe⟩; have B2 : Hid (Below gb w w2) := B1.out.trans (hbe.mono (Nat.le_of_lt (heap_lt I1.out))); have I2 := Lib.hid (kept I1.out hbe); have c0 := cell_row (j := 0) I2.out rfl; have c4 := heap_lt I2.out; clear hbe)
    all_goals
      clear HNA I1 B1 hgc z0 z1 z2 z3 z4 c0 c4
      generalize nameS i.op = ns at *
      have z0 := cell_row (j := 0) I2.out rfl
      have z1 := cell_row (j := 1) I2.out rfl
      have z2 := cell_row (j := 2) I2.out rfl
      have z3 := cell_row (j := 3) I2.out rfl
      have z4 := heap_lt I2.out
      go_wp2_with fail
      refine (HDA.out w2).mono ?_
      rintro e w3 ⟨rfl, hb⟩
      have B3 : Hid (Below gb w w3) := B2.out.trans (hb.mono (Nat.le_of_lt (heap_lt I2.out)))
      have I3 := Lib.hid (kept I2.out hb)
      clear hb z0 z1 z2 z3 z4 I2 B2
      have z0 := cell_row (j := 0) I3.out rfl
      have z1 := cell_row (j := 1) I3.out rfl
      have z2 := cell_row (j := 2) I3.out rfl
      have z3 := cell_row (j := 3) I3.out rfl
      have z4 := heap_lt I3.out
      go_wp2_with fail
      go_ret
      exact ⟨by rw [HE.out]; first | done | rfl, by first | exact B3.out | (rw [hgb]; exact B3.out)⟩
  by_cases o22 : i.op = 22
  case pos =>
    have hnm : (rowAt i.op).nm = 1 := by rw [o22]; rfl
    rw [hnm, text_1] at HT
    have HE := Lib.hid HT
    have q1 : ((i.op : Int) == 1) = false := by simp; omega
    have q19 : ((i.op : Int) == 19) = false := by simp; omega
    have q20 : ((i.op : Int) == 20) = false := by simp; omega
    have q17 : ((i.op : Int) == 17) = false := by simp; omega
    have q18 : ((i.op : Int) == 18) = false := by simp; omega
    have q21 : ((i.op : Int) == 21) = false := by simp; omega
    have q22 : ((i.op : Int) == 22) = true := by simp; omega
    have q24 : ((i.op : Int) == 24) = false := by simp; omega
    have q26 : ((i.op : Int) == 26) = false := by simp; omega
    have q23 : ((i.op : Int) == 23) = false := by simp; omega
    have q25 : ((i.op : Int) == 25) = false := by simp; omega
    clear hnm HT hz ho o22 o1 o19 o20 o17 o18 o21
    go_enter Tryz.func56, Tryz.ntmps56
    have z0 := cell_row (j := 0) hw0.out rfl
    have z1 := cell_row (j := 1) hw0.out rfl
    have z2 := cell_row (j := 2) hw0.out rfl
    have z3 := cell_row (j := 3) hw0.out rfl
    go_wp2_with fail
    rw [← HWA.out]
    generalize hgb : w.heap.size = gb at *
    refine HM.out.mono ?_
    rintro e w1 ⟨rfl, hb⟩
    have B1 : Hid (Below gb w w1) := BA.out.trans (hb.mono (Nat.le_of_lt hlt))
    have I1 : Hid (w1.heap[gb]? = some (.cells #[.int .u8 (i.op : Int), .int .u8 (i.a : Int), .int .u16 (i.b : Int), .int .u32 (i.c : Int)] 32 (0, 0))) := (hb.block gb hlt).trans hw0.out
    clear hb z0 z1 z2 z3
    go_upto_region 3 with fail
    have z0 := cell_row (j := 0) I1.out rfl
    have z1 := cell_row (j := 1) I1.out rfl
    have z2 := cell_row (j := 2) I1.out rfl
    have z3 := cell_row (j := 3) I1.out rfl
    have z4 := heap_lt I1.out
    have HNA : Hid (Calls Tryz.prog 55 #[] w1.drew fun e w' => (∃ g, e = .returned (.slice (some ⟨g, 0, none⟩) 28 28) ∧ w'.cell? ⟨g, i.op, none⟩ = some (.string (nameS i.op))) ∧ Below w1.heap.size w1 w') := by
      refine (names_any w1.drew).mono ?_
      rintro e w' ⟨⟨g, he, hg⟩, hb⟩
      exact ⟨⟨g, he, cell_row hg (names_at _ HOP28.out)⟩, ⟨hb.os, hb.tape, hb.output, hb.size, hb.block⟩⟩
    have hop : i.op < 28 := HOP28.out
    go_region_with (go_at_call 55; (with_reducible refine HNA.out.mono ?_); rintro e w2 ⟨⟨g, rfl, hgc⟩, hbe⟩; have B2 : Hid (Below gb w w2) := B1.out.trans (hbe.mono (Nat.le_of_lt (heap_lt I1.out))); have I2 := Lib.hid (kept I1.out hbe); have c0 := cell_row (j := 0) I2.out rfl; have c4 := heap_lt I2.out; clear hbe)
    all_goals
      clear HNA I1 B1 hgc z0 z1 z2 z3 z4 c0 c4
      generalize nameS i.op = ns at *
      have z0 := cell_row (j := 0) I2.out rfl
      have z1 := cell_row (j := 1) I2.out rfl
      have z2 := cell_row (j := 2) I2.out rfl
      have z3 := cell_row (j := 3) I2.out rfl
      have z4 := heap_lt I2.out
      go_wp2_with fail
      refine (HDA.out w2).mono ?_
      rintro e w3 ⟨rfl, hb⟩
      have B3 : Hid (Below gb w w3) := B2.out.trans (hb.mono (Nat.le_of_lt (heap_lt I2.out)))
      have I3 := Lib.hid (kept I2.out hb)
      clear hb z0 z1 z2 z3 z4 I2 B2
      have z0 := cell_row (j := 0) I3.out rfl
      have z1 := cell_row (j := 1) I3.out rfl
      have z2 := cell_row (j := 2) I3.out rfl
      have z3 := cell_row (j := 3) I3.out rfl
      have z4 := heap_lt I3.out
      go_wp2_with fail
      go_ret
      exact ⟨by rw [HE.out]; first | done | rfl, by first | exact B3.out | (rw [hgb]; exact B3.out)⟩
  by_cases o24 : i.op = 24
  case pos =>
    have hnm : (rowAt i.op).nm = 1 := by rw [o24]; rfl
    rw [hnm, text_1] at HT
    have HE := Lib.hid HT
    have q1 : ((i.op : Int) == 1) = false := by simp; omega
    have q19 : ((i.op : Int) == 19) = false := by simp; omega
    have q20 : ((i.op : Int) == 20) = false := by simp; omega
    have q17 : ((i.op : Int) == 17) = false := by simp; omega
    have q18 : ((i.op : Int) == 18) = false := by simp; omega
    have q21 : ((i.op : Int) == 21) = false := by simp; omega
    have q22 : ((i.op : Int) == 22) = false := by simp; omega
    have q24 : ((i.op : Int) == 24) = true := by simp; omega
    have q26 : ((i.op : Int) == 26) = false := by simp; omega
    have q23 : ((i.op : Int) == 23) = false := by simp; omega
    have q25 : ((i.op : Int) == 25) = false := by simp; omega
    clear hnm HT hz ho o24 o1 o19 o20 o17 o18 o21 o22
    go_enter Tryz.func56, Tryz.ntmps56
    have z0 := cell_row (j := 0) hw0.out rfl
    have z1 := cell_row (j := 1) hw0.out rfl
    have z2 := cell_row (j := 2) hw0.out rfl
    have z3 := cell_row (j := 3) hw0.out rfl
    go_wp2_with fail
    rw [← HWA.out]
    generalize hgb : w.heap.size = gb at *
    refine HM.out.mono ?_
    rintro e w1 ⟨rfl, hb⟩
    have B1 : Hid (Below gb w w1) := BA.out.trans (hb.mono (Nat.le_of_lt hlt))
    have I1 : Hid (w1.heap[gb]? = some (.cells #[.int .u8 (i.op : Int), .int .u8 (i.a : Int), .int .u16 (i.b : Int), .int .u32 (i.c : Int)] 32 (0, 0))) := (hb.block gb hlt).trans hw0.out
    clear hb z0 z1 z2 z3
    go_upto_region 3 with fail
    have z0 := cell_row (j := 0) I1.out rfl
    have z1 := cell_row (j := 1) I1.out rfl
    have z2 := cell_row (j := 2) I1.out rfl
    have z3 := cell_row (j := 3) I1.out rfl
    have z4 := heap_lt I1.out
    have HNA : Hid (Calls Tryz.prog 55 #[] w1.drew fun e w' => (∃ g, e = .returned (.slice (some ⟨g, 0, none⟩) 28 28) ∧ w'.cell? ⟨g, i.op, none⟩ = some (.string (nameS i.op))) ∧ Below w1.heap.size w1 w') := by
      refine (names_any w1.drew).mono ?_
      rintro e w' ⟨⟨g, he, hg⟩, hb⟩
      exact ⟨⟨g, he, cell_row hg (names_at _ HOP28.out)⟩, ⟨hb.os, hb.tape, hb.output, hb.size, hb.block⟩⟩
    have hop : i.op < 28 := HOP28.out
    go_region_with (go_at_call 55; (with_reducible refine HNA.out.mono ?_); rintro e w2 ⟨⟨g, rfl, hgc⟩, hbe⟩; have B2 : Hid (Below gb w w2) := B1.out.trans (hbe.mono (Nat.le_of_lt (heap_lt I1.out))); have I2 := Lib.hid (kept I1.out hbe); have c0 := cell_row (j := 0) I2.out rfl; have c4 := heap_lt I2.out; clear hbe)
    all_goals
      clear HNA I1 B1 hgc z0 z1 z2 z3 z4 c0 c4
      generalize nameS i.op = ns at *
      have z0 := cell_row (j := 0) I2.out rfl
      have z1 := cell_row (j := 1) I2.out rfl
      have z2 := cell_row (j := 2) I2.out rfl
      have z3 := cell_row (j := 3) I2.out rfl
      have z4 := heap_lt I2.out
      go_wp2_with fail
      refine (HDA.out w2).mono ?_
      rintro e w3 ⟨rfl, hb⟩
      have B3 : Hid (Below gb w w3) := B2.out.trans (hb.mono (Nat.le_of_lt (heap_lt I2.out)))
      have I3 := Lib.hid (kept I2.out hb)
      clear hb z0 z1 z2 z3 z4 I2 B2
      have z0 := cell_row (j := 0) I3.out rfl
      have z1 := cell_row (j := 1) I3.out rfl
      have z2 := cell_row (j := 2) I3.out rfl
      have z3 := cell_row (j := 3) I3.out rfl
      have z4 := heap_lt I3.out
      go_wp2_with fail
      go_ret
      exact ⟨by rw [HE.out]; first | done | rfl, by first | exact B3.out | (rw [hgb]; exact B3.out)⟩
  by_cases o26 : i.op = 26
  case pos =>
    have hnm : (rowAt i.op).nm = 1 := by rw [o26]; rfl
    rw [hnm, text_1] at HT
    have HE := Lib.hid HT
    have q1 : ((i.op : Int) == 1) = false := by simp; omega
    have q19 : ((i.op : Int) == 19) = false := by simp; omega
    have q20 : ((i.op : Int) == 20) = false := by simp; omega
    have q17 : ((i.op : Int) == 17) = false := by simp; omega
    have q18 : ((i.op : Int) == 18) = false := by simp; omega
    have q21 : ((i.op : Int) == 21) = false := by simp; omega
    have q22 : ((i.op : Int) == 22) = false := by simp; omega
    have q24 : ((i.op : Int) == 24) = false := by simp; omega
    have q26 : ((i.op : Int) == 26) = true := by simp; omega
    have q23 : ((i.op : Int) == 23) = false := by simp; omega
    have q25 : ((i.op : Int) == 25) = false := by simp; omega
    clear hnm HT hz ho o26 o1 o19 o20 o17 o18 o21 o22 o24
    go_enter Tryz.func56, Tryz.ntmps56
    have z0 := cell_row (j := 0) hw0.out rfl
    have z1 := cell_row (j := 1) hw0.out rfl
    have z2 := cell_row (j := 2) hw0.out rfl
    have z3 := cell_row (j := 3) hw0.out rfl
    go_wp2_with fail
    rw [← HWA.out]
    generalize hgb : w.heap.size = gb at *
    refine HM.out.mono ?_
    rintro e w1 ⟨rfl, hb⟩
    have B1 : Hid (Below gb w w1) := BA.out.trans (hb.mono (Nat.le_of_lt hlt))
    have I1 : Hid (w1.heap[gb]? = some (.cells #[.int .u8 (i.op : Int), .int .u8 (i.a : Int), .int .u16 (i.b : Int), .int .u32 (i.c : Int)] 32 (0, 0))) := (hb.block gb hlt).trans hw0.out
    clear hb z0 z1 z2 z3
    go_upto_region 3 with fail
    have z0 := cell_row (j := 0) I1.out rfl
    have z1 := cell_row (j := 1) I1.out rfl
    have z2 := cell_row (j := 2) I1.out rfl
    have z3 := cell_row (j := 3) I1.out rfl
    have z4 := heap_lt I1.out
    have HNA : Hid (Calls Tryz.prog 55 #[] w1.drew fun e w' => (∃ g, e = .returned (.slice (some ⟨g, 0, none⟩) 28 28) ∧ w'.cell? ⟨g, i.op, none⟩ = some (.string (nameS i.op))) ∧ Below w1.heap.size w1 w') := by
      refine (names_any w1.drew).mono ?_
      rintro e w' ⟨⟨g, he, hg⟩, hb⟩
      exact ⟨⟨g, he, cell_row hg (names_at _ HOP28.out)⟩, ⟨hb.os, hb.tape, hb.output, hb.size, hb.block⟩⟩
    have hop : i.op < 28 := HOP28.out
    go_region_with (go_at_call 55; (with_reducible refine HNA.out.mono ?_); rintro e w2 ⟨⟨g, rfl, hgc⟩, hbe⟩; have B2 : Hid (Below gb w w2) := B1.out.trans (hbe.mono (Nat.le_of_lt (heap_lt I1.out))); have I2 := Lib.hid (kept I1.out hbe); have c0 := cell_row (j := 0) I2.out rfl; have c4 := heap_lt I2.out; clear hbe)
    all_goals
      clear HNA I1 B1 hgc z0 z1 z2 z3 z4 c0 c4
      generalize nameS i.op = ns at *
      have z0 := cell_row (j := 0) I2.out rfl
      have z1 := cell_row (j := 1) I2.out rfl
      have z2 := cell_row (j := 2) I2.out rfl
      have z3 := cell_row (j := 3) I2.out rfl
      have z4 := heap_lt I2.out
      go_wp2_with fail
      refine (HDA.out w2).mono ?_
      rintro e w3 ⟨rfl, hb⟩
      have B3 : Hid (Below gb w w3) := B2.out.trans (hb.mono (Nat.le_of_lt (heap_lt I2.out)))
      have I3 := Lib.hid (kept I2.out hb)
      clear hb z0 z1 z2 z3 z4 I2 B2
      have z0 := cell_row (j := 0) I3.out rfl
      have z1 := cell_row (j := 1) I3.out rfl
      have z2 := cell_row (j := 2) I3.out rfl
      have z3 := cell_row (j := 3) I3.out rfl
      have z4 := heap_lt I3.out
      go_wp2_with fail
      go_ret
      exact ⟨by rw [HE.out]; first | done | rfl, by first | exact B3.out | (rw [hgb]; exact B3.out)⟩
  by_cases o23 : i.op = 23
  case pos =>
    have hnm : (rowAt i.op).nm = 3 := by rw [o23]; rfl
    rw [hnm, text_3] at HT
    have HE := Lib.hid HT
    have q1 : ((i.op : Int) == 1) = false := by simp; omega
    have q19 : ((i.op : Int) == 19) = false := by simp; omega
    have q20 : ((i.op : Int) == 20) = false := by simp; omega
    have q17 : ((i.op : Int) == 17) = false := by simp; omega
    have q18 : ((i.op : Int) == 18) = false := by simp; omega
    have q21 : ((i.op : Int) == 21) = false := by simp; omega
    have q22 : ((i.op : Int) == 22) = false := by simp; omega
    have q24 : ((i.op : Int) == 24) = false := by simp; omega
    have q26 : ((i.op : Int) == 26) = false := by simp; omega
    have q23 : ((i.op : Int) == 23) = true := by simp; omega
    have q25 : ((i.op : Int) == 25) = false := by simp; omega
    clear hnm HT hz ho o23 o1 o19 o20 o17 o18 o21 o22 o24 o26
    go_enter Tryz.func56, Tryz.ntmps56
    have z0 := cell_row (j := 0) hw0.out rfl
    have z1 := cell_row (j := 1) hw0.out rfl
    have z2 := cell_row (j := 2) hw0.out rfl
    have z3 := cell_row (j := 3) hw0.out rfl
    go_wp2_with fail
    rw [← HWA.out]
    generalize hgb : w.heap.size = gb at *
    refine HM.out.mono ?_
    rintro e w1 ⟨rfl, hb⟩
    have B1 : Hid (Below gb w w1) := BA.out.trans (hb.mono (Nat.le_of_lt hlt))
    have I1 : Hid (w1.heap[gb]? = some (.cells #[.int .u8 (i.op : Int), .int .u8 (i.a : Int), .int .u16 (i.b : Int), .int .u32 (i.c : Int)] 32 (0, 0))) := (hb.block gb hlt).trans hw0.out
    clear hb z0 z1 z2 z3
    go_upto_region 3 with fail
    have z0 := cell_row (j := 0) I1.out rfl
    have z1 := cell_row (j := 1) I1.out rfl
    have z2 := cell_row (j := 2) I1.out rfl
    have z3 := cell_row (j := 3) I1.out rfl
    have z4 := heap_lt I1.out
    have HNA : Hid (Calls Tryz.prog 55 #[] w1.drew fun e w' => (∃ g, e = .returned (.slice (some ⟨g, 0, none⟩) 28 28) ∧ w'.cell? ⟨g, i.op, none⟩ = some (.string (nameS i.op))) ∧ Below w1.heap.size w1 w') := by
      refine (names_any w1.drew).mono ?_
      rintro e w' ⟨⟨g, he, hg⟩, hb⟩
      exact ⟨⟨g, he, cell_row hg (names_at _ HOP28.out)⟩, ⟨hb.os, hb.tape, hb.output, hb.size, hb.block⟩⟩
    have hop : i.op < 28 := HOP28.out
    go_region_with (go_at_call 55; (with_reducible refine HNA.out.mono ?_); rintro e w2 ⟨⟨g, rfl, hgc⟩, hbe⟩; have B2 : Hid (Below gb w w2) := B1.out.trans (hbe.mono (Nat.le_of_lt (heap_lt I1.out))); have I2 := Lib.hid (kept I1.out hbe); have c0 := cell_row (j := 0) I2.out rfl; have c4 := heap_lt I2.out; clear hbe)
    all_goals
      clear HNA I1 B1 hgc z0 z1 z2 z3 z4 c0 c4
      generalize nameS i.op = ns at *
      have z0 := cell_row (j := 0) I2.out rfl
      have z1 := cell_row (j := 1) I2.out rfl
      have z2 := cell_row (j := 2) I2.out rfl
      have z3 := cell_row (j := 3) I2.out rfl
      have z4 := heap_lt I2.out
      go_wp2_with fail
      refine (HDA.out w2).mono ?_
      rintro e w3 ⟨rfl, hb⟩
      have B3 : Hid (Below gb w w3) := B2.out.trans (hb.mono (Nat.le_of_lt (heap_lt I2.out)))
      have I3 := Lib.hid (kept I2.out hb)
      clear hb z0 z1 z2 z3 z4 I2 B2
      have z0 := cell_row (j := 0) I3.out rfl
      have z1 := cell_row (j := 1) I3.out rfl
      have z2 := cell_row (j := 2) I3.out rfl
      have z3 := cell_row (j := 3) I3.out rfl
      have z4 := heap_lt I3.out
      go_wp2_with fail
      refine (HDB.out w3).mono ?_
      rintro e w4 ⟨rfl, hb⟩
      have B4 : Hid (Below gb w w4) := B3.out.trans (hb.mono (Nat.le_of_lt (heap_lt I3.out)))
      have I4 := Lib.hid (kept I3.out hb)
      clear hb z0 z1 z2 z3 z4 I3 B3
      go_wp2_with fail
      go_ret
      exact ⟨by rw [HE.out]; first | done | rfl, by first | exact B4.out | (rw [hgb]; exact B4.out)⟩
  by_cases o25 : i.op = 25
  case pos =>
    have hnm : (rowAt i.op).nm = 3 := by rw [o25]; rfl
    rw [hnm, text_3] at HT
    have HE := Lib.hid HT
    have q1 : ((i.op : Int) == 1) = false := by simp; omega
    have q19 : ((i.op : Int) == 19) = false := by simp; omega
    have q20 : ((i.op : Int) == 20) = false := by simp; omega
    have q17 : ((i.op : Int) == 17) = false := by simp; omega
    have q18 : ((i.op : Int) == 18) = false := by simp; omega
    have q21 : ((i.op : Int) == 21) = false := by simp; omega
    have q22 : ((i.op : Int) == 22) = false := by simp; omega
    have q24 : ((i.op : Int) == 24) = false := by simp; omega
    have q26 : ((i.op : Int) == 26) = false := by simp; omega
    have q23 : ((i.op : Int) == 23) = false := by simp; omega
    have q25 : ((i.op : Int) == 25) = true := by simp; omega
    clear hnm HT hz ho o25 o1 o19 o20 o17 o18 o21 o22 o24 o26 o23
    go_enter Tryz.func56, Tryz.ntmps56
    have z0 := cell_row (j := 0) hw0.out rfl
    have z1 := cell_row (j := 1) hw0.out rfl
    have z2 := cell_row (j := 2) hw0.out rfl
    have z3 := cell_row (j := 3) hw0.out rfl
    go_wp2_with fail
    rw [← HWA.out]
    generalize hgb : w.heap.size = gb at *
    refine HM.out.mono ?_
    rintro e w1 ⟨rfl, hb⟩
    have B1 : Hid (Below gb w w1) := BA.out.trans (hb.mono (Nat.le_of_lt hlt))
    have I1 : Hid (w1.heap[gb]? = some (.cells #[.int .u8 (i.op : Int), .int .u8 (i.a : Int), .int .u16 (i.b : Int), .int .u32 (i.c : Int)] 32 (0, 0))) := (hb.block gb hlt).trans hw0.out
    clear hb z0 z1 z2 z3
    go_upto_region 3 with fail
    have z0 := cell_row (j := 0) I1.out rfl
    have z1 := cell_row (j := 1) I1.out rfl
    have z2 := cell_row (j := 2) I1.out rfl
    have z3 := cell_row (j := 3) I1.out rfl
    have z4 := heap_lt I1.out
    have HNA : Hid (Calls Tryz.prog 55 #[] w1.drew fun e w' => (∃ g, e = .returned (.slice (some ⟨g, 0, none⟩) 28 28) ∧ w'.cell? ⟨g, i.op, none⟩ = some (.string (nameS i.op))) ∧ Below w1.heap.size w1 w') := by
      refine (names_any w1.drew).mono ?_
      rintro e w' ⟨⟨g, he, hg⟩, hb⟩
      exact ⟨⟨g, he, cell_row hg (names_at _ HOP28.out)⟩, ⟨hb.os, hb.tape, hb.output, hb.size, hb.block⟩⟩
    have hop : i.op < 28 := HOP28.out
    go_region_with (go_at_call 55; (with_reducible refine HNA.out.mono ?_); rintro e w2 ⟨⟨g, rfl, hgc⟩, hbe⟩; have B2 : Hid (Below gb w w2) := B1.out.trans (hbe.mono (Nat.le_of_lt (heap_lt I1.out))); have I2 := Lib.hid (kept I1.out hbe); have c0 := cell_row (j := 0) I2.out rfl; have c4 := heap_lt I2.out; clear hbe)
    all_goals
      clear HNA I1 B1 hgc z0 z1 z2 z3 z4 c0 c4
      generalize nameS i.op = ns at *
      have z0 := cell_row (j := 0) I2.out rfl
      have z1 := cell_row (j := 1) I2.out rfl
      have z2 := cell_row (j := 2) I2.out rfl
      have z3 := cell_row (j := 3) I2.out rfl
      have z4 := heap_lt I2.out
      go_wp2_with fail
      refine (HDA.out w2).mono ?_
      rintro e w3 ⟨rfl, hb⟩
      have B3 : Hid (Below gb w w3) := B2.out.trans (hb.mono (Nat.le_of_lt (heap_lt I2.out)))
      have I3 := Lib.hid (kept I2.out hb)
      clear hb z0 z1 z2 z3 z4 I2 B2
      have z0 := cell_row (j := 0) I3.out rfl
      have z1 := cell_row (j := 1) I3.out rfl
      have z2 := cell_row (j := 2) I3.out rfl
      have z3 := cell_row (j := 3) I3.out rfl
      have z4 := heap_lt I3.out
      go_wp2_with fail
      refine (HDB.out w3).mono ?_
      rintro e w4 ⟨rfl, hb⟩
      have B4 : Hid (Below gb w w4) := B3.out.trans (hb.mono (Nat.le_of_lt (heap_lt I3.out)))
      have I4 := Lib.hid (kept I3.out hb)
      clear hb z0 z1 z2 z3 z4 I3 B3
      go_wp2_with fail
      go_ret
      exact ⟨by rw [HE.out]; first | done | rfl, by first | exact B4.out | (rw [hgb]; exact B4.out)⟩
  have hnm : (rowAt i.op).nm = 0 := (row_rest i.op ho hz o1 o19 o20 o17 o18 o23 o25 o21 o22 o24 o26).2
  rw [hnm, text_0] at HT
  have HE := Lib.hid HT
  have q1 : ((i.op : Int) == 1) = false := by simp; omega
  have q19 : ((i.op : Int) == 19) = false := by simp; omega
  have q20 : ((i.op : Int) == 20) = false := by simp; omega
  have q17 : ((i.op : Int) == 17) = false := by simp; omega
  have q18 : ((i.op : Int) == 18) = false := by simp; omega
  have q21 : ((i.op : Int) == 21) = false := by simp; omega
  have q22 : ((i.op : Int) == 22) = false := by simp; omega
  have q24 : ((i.op : Int) == 24) = false := by simp; omega
  have q26 : ((i.op : Int) == 26) = false := by simp; omega
  have q23 : ((i.op : Int) == 23) = false := by simp; omega
  have q25 : ((i.op : Int) == 25) = false := by simp; omega
  clear hnm HT hz ho o1 o19 o20 o17 o18 o21 o22 o24 o26 o23 o25
  go_enter Tryz.func56, Tryz.ntmps56
  have z0 := cell_row (j := 0) hw0.out rfl
  have z1 := cell_row (j := 1) hw0.out rfl
  have z2 := cell_row (j := 2) hw0.out rfl
  have z3 := cell_row (j := 3) hw0.out rfl
  go_wp2_with fail
  rw [← HWA.out]
  generalize hgb : w.heap.size = gb at *
  refine HM.out.mono ?_
  rintro e w1 ⟨rfl, hb⟩
  have B1 : Hid (Below gb w w1) := BA.out.trans (hb.mono (Nat.le_of_lt hlt))
  have I1 : Hid (w1.heap[gb]? = some (.cells #[.int .u8 (i.op : Int), .int .u8 (i.a : Int), .int .u16 (i.b : Int), .int .u32 (i.c : Int)] 32 (0, 0))) := (hb.block gb hlt).trans hw0.out
  clear hb z0 z1 z2 z3
  go_upto_region 3 with fail
  have z0 := cell_row (j := 0) I1.out rfl
  have z1 := cell_row (j := 1) I1.out rfl
  have z2 := cell_row (j := 2) I1.out rfl
  have z3 := cell_row (j := 3) I1.out rfl
  have z4 := heap_lt I1.out
  have HNA : Hid (Calls Tryz.prog 55 #[] w1.drew fun e w' => (∃ g, e = .returned (.slice (some ⟨g, 0, none⟩) 28 28) ∧ w'.cell? ⟨g, i.op, none⟩ = some (.string (nameS i.op))) ∧ Below w1.heap.size w1 w') := by
    refine (names_any w1.drew).mono ?_
    rintro e w' ⟨⟨g, he, hg⟩, hb⟩
    exact ⟨⟨g, he, cell_row hg (names_at _ HOP28.out)⟩, ⟨hb.os, hb.tape, hb.output, hb.size, hb.block⟩⟩
  have hop : i.op < 28 := HOP28.out
  go_region_with (go_at_call 55; (with_reducible refine HNA.out.mono ?_); rintro e w2 ⟨⟨g, rfl, hgc⟩, hbe⟩; have B2 : Hid (Below gb w w2) := B1.out.trans (hbe.mono (Nat.le_of_lt (heap_lt I1.out))); have I2 := Lib.hid (kept I1.out hbe); have c0 := cell_row (j := 0) I2.out rfl; have c4 := heap_lt I2.out; clear hbe)
  all_goals
    clear HNA I1 B1 hgc z0 z1 z2 z3 z4 c0 c4
    generalize nameS i.op = ns at *
    have z0 := cell_row (j := 0) I2.out rfl
    have z1 := cell_row (j := 1) I2.out rfl
    have z2 := cell_row (j := 2) I2.out rfl
    have z3 := cell_row (j := 3) I2.out rfl
    have z4 := heap_lt I2.out
    go_wp2_with fail
    refine (HDA.out w2).mono ?_
    rintro e w3 ⟨rfl, hb⟩
    have B3 : Hid (Below gb w w3) := B2.out.trans (hb.mono (Nat.le_of_lt (heap_lt I2.out)))
    have I3 := Lib.hid (kept I2.out hb)
    clear hb z0 z1 z2 z3 z4 I2 B2
    have z0 := cell_row (j := 0) I3.out rfl
    have z1 := cell_row (j := 1) I3.out rfl
    have z2 := cell_row (j := 2) I3.out rfl
    have z3 := cell_row (j := 3) I3.out rfl
    have z4 := heap_lt I3.out
    go_wp2_with fail
    go_ret
    exact ⟨by rw [HE.out]; first | done | rfl, by first | exact B3.out | (rw [hgb]; exact B3.out)⟩
end Go.Proofs.YtalmgjeiopjhlaaGreatDoor
