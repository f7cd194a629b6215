/- Parse. -/
import Derived.Test.YtalmgjeiopjhlaaGreatDoorAsmRW
import Derived.Test.YtalmgjeiopjhlaaGreatDoorAsmTU
namespace Go.Proofs.YtalmgjeiopjhlaaGreatDoor
open Go.Shelf Go.RowKit Go.WideMaps Go.Maps
set_option linter.unusedVariables false
set_option linter.unusedSimpArgs false
/-- The library's longest needle's cell holds a number. -/
def MaxW (w : World) : Prop := ∃ m : Int, w.cell? ⟨Tryz.laysCut_ren.g 1, 0, none⟩ = some (.int .i64 m)
theorem MaxW.below {w w' : World} (h : MaxW w) (hb : Below w.heap.size w w') : MaxW w' := by
  obtain ⟨m, h1⟩ := h
  exact ⟨m, (hb.cell (Lib.lt_of_cell h1)).trans h1⟩
/-- What the library's calls want of a world. -/
structure LibW (w : World) : Prop where
  err : ErrW w
  tab : TabW w
  max : MaxW w
theorem LibW.below {w w' : World} (h : LibW w) (hb : Below w.heap.size w w') : LibW w' := ⟨h.err.below hb, h.tab.below hb, h.max.below hb⟩
def linesB (s : ByteArray) : List ByteArray := Lib.splitB ⟨#[10]⟩ 0 (Lib.countB s ⟨#[10]⟩) s
theorem linesB_part (s : ByteArray) : linesB s = (partL 10 s.data.toList).map bytesOf := map_bytes (split_part 10 s)
theorem linesB_len (s : ByteArray) : (linesB s).length = Lib.countB s ⟨#[10]⟩ + 1 := Lib.splitB_all ⟨#[10]⟩ (Nat.le_refl 1) 0 _ s rfl
theorem lsplit_any (s : ByteArray) (w : World) (hs : s.size ≤ 524288) (hM : MaxW w) :
    Calls Tryz.prog 37 #[.string s, .string ⟨#[10]⟩] w fun e w' => e = .returned (.slice (some ⟨w.heap.size, 0, none⟩) (linesB s).length (linesB s).length) ∧ w' = w.alloc (.cells ((linesB s).map Value.string).toArray 9) := by
  obtain ⟨m, hm⟩ := hM
  refine (Any.strings_Split Tryz.laysSplit (by kernel_rfl) s ⟨#[10]⟩ m w (by omega) hm (Nat.le_refl 1)).mono ?_
  rintro e w' ⟨h1, h2⟩
  exact ⟨by rw [h1, linesB_len], h2⟩
theorem lcut_any (s : ByteArray) (w : World) (hs : s.size ≤ 524288) (hM : MaxW w) :
    Calls Tryz.prog 38 #[.string s, .string ⟨#[59]⟩] w fun e w' => ∃ (t u : ByteArray) (b : Bool), t = ⟨(Lib.cut s.data.toList [59]).1.toArray⟩ ∧ e = .returned (.tuple #[.string t, .string u, .bool b]) ∧ ∃ n, w' = w.drewN n := by
  obtain ⟨m, hm⟩ := hM
  refine (Any.strings_Cut Tryz.laysCut s ⟨#[59]⟩ m w (by omega) hm).mono ?_
  rintro e w' ⟨h1, h2⟩
  exact ⟨_, _, _, rfl, h1, h2⟩
theorem sp_any (w : World) : PredAt Tryz.prog 40 #[] encR isSp w := fun W r _ => by
  unfold FnGives isSp
  by_cases h : r = 32
  · have t1 : ((r : Int) == 32) = true := beq_iff_eq.2 (by omega)
    go_enter Tryz.func40, Tryz.ntmps40
    go_wp2
    go_ret
    exact ⟨by rw [decide_eq_true h]; rfl, 0, rfl⟩
  · have t1 : ((r : Int) == 32) = false := beq_eq_false_iff_ne.2 (by omega)
    go_enter Tryz.func40, Tryz.ntmps40
    go_wp2
    go_ret
    exact ⟨by rw [decide_eq_false h]; rfl, 0, rfl⟩
theorem ff_any (s t : ByteArray) (w : World) (hs : t.size ≤ 524288) (ht : t = ⟨(Lib.cut s.data.toList [59]).1.toArray⟩) :
    Calls Tryz.prog 39 #[.string t, .func (.func 40) #[] #[]] w fun e w' => OutW w.heap.size w' (wordsB s.data.toList) e ∧ Below w.heap.size w w' := by
  have hg : Lib.goFieldsP isSp t = wordsB s.data.toList := by rw [ht]; exact map_bytes (line_words s)
  have h := Any.strings_FieldsFunc Tryz.laysFF 40 #[] (enters_of Tryz.func40 (by kernel_rfl) rfl) isSp t w (by omega) (sp_any w) (by kernel_rfl) (by kernel_rfl)
  rw [hg] at h
  refine h.mono ?_
  rintro e w' ⟨A, h1, h2, h3, h4⟩
  exact ⟨⟨_, h1, h3⟩, h4⟩
theorem part_len (c : UInt8) : ∀ (l x : List UInt8), x ∈ partL c l → x.length ≤ l.length
  | [], x, h => by simp [partL] at h; subst h; simp
  | b :: r, x, h => by
    unfold partL at h
    by_cases hb : b = c
    · rw [if_pos hb] at h
      rcases List.mem_cons.1 h with rfl | h
      · simp
      · have := part_len c r x h; simp; omega
    · rw [if_neg hb] at h
      cases hp : partL c r with
      | nil => rw [hp] at h; simp at h; subst h; simp
      | cons y t =>
        rw [hp] at h
        rcases List.mem_cons.1 h with rfl | h
        · have := part_len c r y (by rw [hp]; simp); simp; omega
        · have := part_len c r x (by rw [hp]; simp [h]); simp; omega
theorem part_count (c : UInt8) : ∀ l : List UInt8, (partL c l).length ≤ l.length + 1
  | [] => by simp [partL]
  | b :: r => by
    have := part_count c r
    unfold partL
    by_cases hb : b = c
    · rw [if_pos hb]; simp; omega
    · rw [if_neg hb]
      cases hp : partL c r with
      | nil => simp
      | cons y t => rw [hp] at this; simp at this ⊢; omega
theorem line_get (s : ByteArray) {k : Nat} (h : k < (linesB s).length) : ∃ lk, (linesB s)[k]? = some lk ∧ lk.size ≤ s.size ∧ (partL 10 s.data.toList).drop k = lk.data.toList :: (partL 10 s.data.toList).drop (k + 1) := by
  have e := linesB_part s
  have hl : (linesB s).length = (partL 10 s.data.toList).length := by rw [e, List.length_map]
  rw [hl] at h
  refine ⟨bytesOf ((partL 10 s.data.toList)[k]), ?_, ?_, ?_⟩
  · rw [e, List.getElem?_map, List.getElem?_eq_getElem h]; rfl
  · have := part_len 10 s.data.toList _ (List.getElem_mem h)
    rw [← size_list, bytesOf_data, ← size_list]; exact this
  · rw [bytesOf_data, List.drop_eq_getElem_cons h]
set_option maxRecDepth 100000 in
set_option maxHeartbeats 4000000 in
theorem parse_any (s : ByteArray) (w : World) (hs : s.size ≤ 9223372036854775807) (hL : LibW w) :
    Calls Tryz.prog 17 #[.string s] w fun e w' => OutA w.heap.size w' (parseS s.data.toList) e ∧ Below w.heap.size w w' := by
  by_cases hbig : 524288 < s.size
  · have t1 : decide ((524288 : Int) < (s.size : Int)) = true := decide_eq_true (by omega)
    have HR : parseS s.data.toList = ([], 0, 3) := by unfold parseS; rw [if_pos (by rw [size_list]; exact hbig)]
    rw [HR]
    go_enter Tryz.func17, Tryz.ntmps17
    go_wp2_with fail
    go_ret3
    exact ⟨OutA.none _ _ _ _, Below.refl _ _⟩
  have t1 : decide ((524288 : Int) < (s.size : Int)) = false := decide_eq_false (by omega)
  have HR : Hid (parseS s.data.toList = parseG 0 [] ((partL 10 s.data.toList).drop 0)) := by show _ = _; unfold parseS; rw [if_neg (by rw [size_list]; exact hbig)]; rfl
  have hsm : s.size ≤ 524288 := by omega
  have HSP := Lib.hid (lsplit_any s w hsm hL.max)
  have HLG := Lib.hid (fun k (h : k < (linesB s).length) => line_get s h)
  have HLN : Hid ((linesB s).length = (partL 10 s.data.toList).length) := by show _ = _; rw [linesB_part, List.length_map]
  have hN : (linesB s).length ≤ 1000000 := by
    rw [HLN.out]
    have := part_count 10 s.data.toList
    rw [size_list] at this; omega
  have HL := Lib.hid hL
  obtain ⟨i0, hi, hz0, hz1, hz2⟩ := info_parts (show (Tryz.prog.info? 34).map (fun i => (i.zero, i.size, i.bytes)) = some (some (.agg #[.string ⟨#[]⟩, .int .u8 0, .int .u8 0, .int .u16 0, .int .u32 0, .string ⟨#[]⟩]), 6, 40) by kernel_rfl)
  have HIn := Lib.hid hi; have HZ0 := Lib.hid hz0; have HZ1 := Lib.hid hz1; have HZ2 := Lib.hid hz2
  clear hi hz0 hz1 hz2 hbig hs hL
  generalize s.data.toList = l at *
  generalize hsz : s.size = sz at *
  generalize linesB s = lb at *
  go_enter Tryz.func17, Tryz.ntmps17
  go_wp2_with fail
  refine HSP.out.mono ?_
  rintro e w1 ⟨rfl, hw1⟩
  have G1 : Hid (w1.heap[w.heap.size]? = some (.cells (lb.map Value.string).toArray 9 (0, 0))) := by show _ = _; rw [hw1]; exact heap_alloc_new _ _
  have B1 : Hid (Below w.heap.size w w1) := by show Below _ _ _; rw [hw1]; exact alloc_below _ _
  have HL1 := Lib.hid (HL.out.below B1.out)
  clear hw1 HSP HL
  generalize hN2 : lb.length = N at *
  generalize hg0 : w.heap.size = g0 at *
  have HG0 := Lib.hid hg0
  have hgl : g0 < w1.heap.size := heap_lt G1.out
  clear hN2
  go_wp2_with fail
  go_loopw [5, 17] (fun v i wr => ∃ (q : Nat) (acc : List AL) (oa : Option Addr) (oc : Nat), v = .slice oa acc.length oc ∧ q ≤ N ∧ acc.length ≤ 16384 ∧ i = .int .i64 (q : Int) ∧ Hid (parseS l = parseG q acc ((partL 10 l).drop q)) ∧ Hid (wr.ownsRow w1.heap.size 34 6 (.slice oa acc.length oc) acc.length (alVs acc)) ∧ Hid (Below w1.heap.size w1 wr)) (fun _ a _ => N - (intOf a).toNat)
  case atStart => exact ⟨0, [], none, 0, rfl, Nat.zero_le _, Nat.zero_le _, rfl, HR, World.ownsRow_nil _ _ _ _, Below.refl _ _⟩
  case round =>
    clear HR
    obtain ⟨q, acc, oa, oc, rfl, hq, hacc, rfl, HV, HO, HB⟩ := hrel
    rcases Nat.lt_or_ge q N with hq2 | hq2
    case inr =>
      obtain rfl : q = N := by omega
      have t2 : decide ((q : Int) < (q : Int)) = false := by simp
      have HF : Hid (parseS l = (acc, 0, 0)) := by
        have := HV.out
        rw [List.drop_of_length_le (Nat.le_of_eq HLN.out.symm)] at this; exact this
      clear HV
      go_wp2_with fail
      go_ret3
      refine ⟨OutA.low (b := w1.heap.size) ⟨_, by rw [HF.out]; rfl, by rw [HF.out]; exact HO.out⟩ (by rw [HG0.out]; exact Nat.le_of_lt hgl), by rw [HG0.out]; exact B1.out.trans (HB.out.mono (Nat.le_of_lt hgl))⟩
    have t2 : decide ((q : Int) < (N : Int)) = true := decide_eq_true (by omega)
    obtain ⟨lk, hk1, hk2, hk3⟩ := HLG.out q hq2
    have HLK : Hid (lk.data.toList.length ≤ 524288) := by show _ ≤ _; rw [size_list]; omega
    have hls : lk.size ≤ 524288 := by omega
    have HV2 : Hid (parseS l = parseG q acc (lk.data.toList :: (partL 10 l).drop (q + 1))) := by have := HV.out; rw [hk3] at this; exact this
    have c0 : wr.cell? ⟨g0, q, none⟩ = some (.string lk) := (HB.out.cell hgl).trans (cell_row G1.out (by simp [hk1]))
    have HLW := Lib.hid (HL1.out.below HB.out)
    clear hk1 hk2 hk3 HV HLG
    go_wp2_with fail
    refine (lcut_any lk wr hls HLW.out.max).mono ?_
    rintro e w2 ⟨t, u, bb, ht, rfl, nd, hw2⟩
    have HT := Lib.hid ht
    have hts : t.size ≤ 524288 := by
      rw [ht, ← size_list]
      have h1 := aheadL_len 59 lk.data.toList
      have h2 := HLK.out
      rw [← cut_ahead] at h1
      simp; omega
    have O1 : Hid (w2.ownsRow w1.heap.size 34 6 (.slice oa acc.length oc) acc.length (alVs acc)) := by show World.ownsRow _ _ _ _ _ _ _; rw [hw2]; exact HO.out
    have BB1 : Hid (Below w1.heap.size w1 w2) := by show Below _ _ _; rw [hw2]; exact ⟨HB.out.os, HB.out.tape, HB.out.output, HB.out.size, HB.out.block⟩
    clear hw2 ht HO HB c0 HLW
    go_wp2_with fail
    have HFF := Lib.hid (ff_any lk t w2 hts HT.out)
    refine HFF.out.mono ?_
    rintro e w3 ⟨⟨v2, rfl, hown⟩, hb2⟩
    clear HFF HT
    generalize lk.data.toList = lk at *
    have HWS : Hid (∀ i, i < (wordsB lk).length → 0 < ((wordsB lk).getD i eS).size ∧ ((wordsB lk).getD i eS).size ≤ 1000000) := fun i hi => by
      have := wordsB_size i hi
      have := HLK.out
      omega
    obtain ⟨wa, wcap, rfl, hwc, hwm, hsl⟩ := strs_of_own hown
    have HSL := Lib.hid hsl
    clear hown hsl
    have O2 := Lib.hid (own_below O1.out hb2)
    have B2 : Hid (Below w1.heap.size w1 w3) := BB1.out.trans (hb2.mono BB1.out.size)
    clear O1 BB1 hb2
    generalize hrs : (partL 10 l).drop (q + 1) = rs at HV2
    have HRS := Lib.hid hrs
    clear hrs
    have HGB := Lib.hid (fun h => parseG_blank (n := q) (acc := acc) (l := lk) (ls := rs) h)
    have HGX := Lib.hid (fun h1 h2 => parseG_bad (n := q) (acc := acc) (l := lk) (ls := rs) h1 h2)
    have HGL := Lib.hid (fun h1 h2 h3 => parseG_long (n := q) (acc := acc) (l := lk) (ls := rs) h1 h2 h3)
    have HGN := Lib.hid (fun h1 h2 h3 => parseG_line (n := q) (acc := acc) (l := lk) (ls := rs) h1 h2 h3)
    have HWN : Hid ((wordsB lk).length = (wordsL lk).length) := wordsB_len lk
    generalize wordsB lk = ws at *
    by_cases hw0 : ws.length = 0
    · have HV3 : Hid (parseS l = parseG (q + 1) acc (rs)) := HV2.out.trans (HGB.out (List.eq_nil_of_length_eq_zero (HWN.out ▸ hw0)))
      have t5 : ((ws.length : Int) == 0) = true := beq_iff_eq.2 (by omega)
      clear HGB HGX HGL HGN HV2 HSL HWS HWN
      go_wp2_with fail
      refine ⟨⟨q + 1, acc, oa, oc, rfl, by omega, hacc, by go_num, by rw [HRS.out]; exact HV3, O2, B2⟩, ?_⟩
      simp [intOf]; omega
    have hwne := Lib.hid (show wordsL lk ≠ [] from fun e => hw0 (by rw [HWN.out, e]; rfl))
    have t5 : ((ws.length : Int) == 0) = false := beq_eq_false_iff_ne.2 (by omega)
    have HON := Lib.hid (line_any ws wa wcap w3 HSL.out (Nat.pos_of_ne_zero hw0) hwc hwm HWS.out (HL1.out.below B2.out).err (HL1.out.below B2.out).tab)
    clear HGB HSL HWS HWN
    generalize lineS ws = rl at *
    obtain ⟨rc, rx⟩ := rl
    go_wp2_with fail
    refine HON.out.mono ?_
    rintro e' w4 ⟨⟨x, rfl, hx⟩, hb3⟩
    have O3 := Lib.hid (own_below O2.out hb3)
    have B3 : Hid (Below w1.heap.size w1 w4) := B2.out.trans (hb3.mono B2.out.size)
    have HX := Lib.hid hx
    clear hb3 hx O2 B2 HON
    obtain ⟨xl, ⟨xo, xa, xb, xc⟩, xt⟩ := x
    unfold AL.val AL.cells
    by_cases hrc : rc = 0
    · subst hrc
      by_cases hal : acc.length = 16384
      · have HV3 : Hid (parseS l = ([], q + 1, 3)) := HV2.out.trans (HGL.out hwne.out rfl hal)
        have t6 : ((acc.length : Int) == 16384) = true := beq_iff_eq.2 (by omega)
        clear HGX HGN HGL HV2 HX hal
        go_wp2_with fail
        go_ret3
        exact ⟨by rw [HV3.out]; exact OutA.none _ _ _ _, by rw [HG0.out]; exact B1.out.trans ((B3.out.alloc B3.out.size _).mono (Nat.le_of_lt hgl))⟩
      · have HRX : (⟨xl, ⟨xo, xa, xb, xc⟩, xt⟩ : AL) = rx := HX.out rfl
        have HV3 : Hid (parseS l = parseG (q + 1) (acc ++ [⟨xl, ⟨xo, xa, xb, xc⟩, xt⟩]) (rs)) := (HV2.out.trans (HGN.out hwne.out rfl hal)).trans (by rw [HRX])
        have t6 : ((acc.length : Int) == 16384) = false := beq_eq_false_iff_ne.2 (by omega)
        clear HGX HGN HGL HV2 HX HRX
        have G4 : Hid ((w4.alloc (.cells #[.string xl, .int .u8 (xo : Int), .int .u8 (xa : Int), .int .u16 (xb : Int), .int .u32 (xc : Int), .string xt] 34)).heap[w4.heap.size]? = some (.cells #[.string xl, .int .u8 (xo : Int), .int .u8 (xa : Int), .int .u16 (xb : Int), .int .u32 (xc : Int), .string xt] 34 (0, 0))) := heap_alloc_new _ _
        have O4 := Lib.hid (O3.out.alloc (.cells #[.string xl, .int .u8 (xo : Int), .int .u8 (xa : Int), .int .u16 (xb : Int), .int .u32 (xc : Int), .string xt] 34))
        have BB4 : Hid (Below w1.heap.size w1 (w4.alloc (.cells #[.string xl, .int .u8 (xo : Int), .int .u8 (xa : Int), .int .u16 (xb : Int), .int .u32 (xc : Int), .string xt] 34))) := B3.out.alloc B3.out.size _
        go_upto_region 15 with fail
        generalize w4.alloc (.cells #[.string xl, .int .u8 (xo : Int), .int .u8 (xa : Int), .int .u16 (xb : Int), .int .u32 (xc : Int), .string xt] 34) = w5 at *
        generalize w4.heap.size = g at *
        have c0 := cell_row (j := 0) G4.out rfl
        have c1 := cell_row (j := 1) G4.out rfl
        have c2 := cell_row (j := 2) G4.out rfl
        have c3 := cell_row (j := 3) G4.out rfl
        have c4 := cell_row (j := 4) G4.out rfl
        have c5 := cell_row (j := 5) G4.out rfl
        -- the line lies in block g of w5; it is appended
        have HW : Hid (∀ j u, [Value.string xl, .int .u8 (xo : Int), .int .u8 (xa : Int), .int .u16 (xb : Int), .int .u32 (xc : Int), .string xt][j]? = some u → (w5.alloc (.cells #[.string xl, .int .u8 (xo : Int), .int .u8 (xa : Int), .int .u16 (xb : Int), .int .u32 (xc : Int), .string xt] 34)).cell? ((⟨w5.heap.size, 0, none⟩ : Addr).add j) = some u) := six_news _ _ _ _ _ _ _ _
        have OA := Lib.hid (O4.out.alloc (.cells #[.string xl, .int .u8 (xo : Int), .int .u8 (xa : Int), .int .u16 (xb : Int), .int .u32 (xc : Int), .string xt] 34))
        have HZ : Hid (w1.heap.size ≤ w5.heap.size) := BB4.out.size
        go_wp2_with (at_builtin; refine wpList_append_own _ rfl _ _ 22 rfl (w1.heap.size) 34 i0 (.agg #[.string ⟨#[]⟩, .int .u8 0, .int .u8 0, .int .u16 0, .int .u32 0, .string ⟨#[]⟩]) 6 40 Tryz.underlying22 HIn.out HZ0.out HZ1.out HZ2.out rfl (by decide) (.slice oa acc.length oc) acc.length _ rfl OA.out ⟨w5.heap.size, 0, none⟩ 1 1 [.string xl, .int .u8 (xo : Int), .int .u8 (xa : Int), .int .u16 (xb : Int), .int .u32 (xc : Int), .string xt] rfl rfl HW.out (fun u hu => by simp at hu; rcases hu with rfl | rfl | rfl | rfl | rfl | rfl <;> rfl) (by unfold maxLen; omega) (by omega) (by simp; have := HZ.out; omega) ?_)
        intro v6 w6 ho6 hg6 _
        have BB6 : Hid (Below (w1.heap.size) w1 w6) := (BB4.out.alloc BB4.out.size _).grown hg6 (by simp; have := HZ.out; omega) (fun j hj => (O4.out.lt j hj).1)
        have O6 : Hid (w6.ownsRow (w1.heap.size) 34 6 v6 (acc ++ [(⟨xl, ⟨xo, xa, xb, xc⟩, xt⟩ : AL)]).length (alVs (acc ++ [⟨xl, ⟨xo, xa, xb, xc⟩, xt⟩]))) := by
          show World.ownsRow _ _ _ _ _ _ _
          rw [← alVs_snoc, List.length_append]; exact ho6
        clear ho6 hg6 OA HW
        obtain ⟨oa6, oc6, hv6, _, _, _⟩ := als_of_own O6.out
        subst hv6
        go_wp2_with fail
        refine ⟨⟨q + 1, acc ++ [⟨xl, ⟨xo, xa, xb, xc⟩, xt⟩], oa6, oc6, rfl, by omega, by rw [List.length_append]; simp; omega, by go_num, by rw [HRS.out]; exact HV3, O6, BB6⟩, ?_⟩
        simp [intOf]; omega
    · have HV3 : Hid (parseS l = ([], q + 1, rc)) := HV2.out.trans (HGX.out hwne.out hrc)
      have t6 : ((rc : Int) == 0) = false := beq_eq_false_iff_ne.2 (by omega)
      have t7 : ((rc : Int) != 0) = true := bne_iff_ne.2 (by omega)
      clear HGX HGN HGL HV2 HX
      go_wp2_with fail
      go_ret3
      exact ⟨by rw [HV3.out]; exact OutA.none _ _ _ _, by rw [HG0.out]; exact B1.out.trans ((B3.out.alloc B3.out.size _).mono (Nat.le_of_lt hgl))⟩
end Go.Proofs.YtalmgjeiopjhlaaGreatDoor
