/- Text. -/
import Derived.Test.YtalmgjeiopjhlaaGreatDoorAsmF
import Derived.Shelf.Strings.BuilderK
import Derived.BigQuiet
namespace Go.Proofs.YtalmgjeiopjhlaaGreatDoor
open Go.Shelf Go.RowKit
set_option linter.unusedVariables false
set_option linter.unusedSimpArgs false
theorem Tryz.extraW : Builder.Extra Tryz.prog Tryz.laysBW_ren where
  sizeBuilder := by kernel_rfl
  liesBuilder := by kernel_rfl
  t5 := Tryz.underlying5
  a5 := Tryz.isAgg5
  z5 := Tryz.sizeOf5
  v5 := Tryz.zeroValue5
  infoByte := by kernel_rfl
  cellsByte := by kernel_rfl
  sizeByte := by kernel_rfl
  neB5 := by decide
theorem Tryz.extraS : Builder.Extra Tryz.prog Tryz.laysBS_ren where
  sizeBuilder := by kernel_rfl
  liesBuilder := by kernel_rfl
  t5 := Tryz.underlying5
  a5 := Tryz.isAgg5
  z5 := Tryz.sizeOf5
  v5 := Tryz.zeroValue5
  infoByte := by kernel_rfl
  cellsByte := by kernel_rfl
  sizeByte := by kernel_rfl
  neB5 := by decide
def Bld (B : Nat) (l : List UInt8) (w : World) : Prop := Lib.IsBuilderF 57 5 B B (Lib.byteCells l) w
theorem own_sameF {w w' : World} {B : Nat} {e : TypeId} {size : Nat} {v : Value} {n : Nat} {xs : List Value} (h : w.ownsRowF B e size v n xs) (hs : ∀ g, g < w.heap.size → w'.heap[g]? = w.heap[g]?) : w'.ownsRowF B e size v n xs := by
  refine ⟨h.1, ?_⟩
  rcases h.2 with h0 | ⟨g, cap, cur, fz, rfl, h1, h2, h3⟩
  · exact .inl h0
  · exact .inr ⟨g, cap, cur, fz, rfl, h1, (hs g (heap_lt h2)).trans h2, h3⟩
theorem Bld.below {B : Nat} {l : List UInt8} {w w' : World} (h : Bld B l w) (hb : Below w.heap.size w w') : Bld B l w' := by
  rcases h with ⟨h0, v, h1, h2, h3⟩ | ⟨h0, v, h1, h2, h3⟩
  · exact .inl ⟨h0, v, (hb.block _ (heap_lt h1)).trans h1, own_sameF h2 fun g hg => hb.block g hg, h3⟩
  · exact .inr ⟨h0, v, (hb.block _ (heap_lt h1)).trans h1, own_sameF h2 fun g hg => hb.block g hg, h3⟩
theorem Bld.fresh (w : World) : Bld w.heap.size [] (w.alloc (.cells #[.pointer none, .slice none 0 0] 57)) := Lib.IsBuilderF.of (Lib.fresh_isBuilder _ _ w)
theorem bw_any (B : Nat) (l : List UInt8) (s : ByteArray) (w : World) (h : Bld B l w) (hlen : l.length + s.size ≤ 140737488355328) (hB : B ≤ w.heap.size) :
    Calls Tryz.prog 32 #[.pointer (some ⟨B, 0, none⟩), .string s] w fun e w' => e = .returned (.tuple #[.int .i64 s.size, .nilIface]) ∧ Bld B (l ++ s.data.toList) w' ∧ Below B w w' ∧ Lib.OthersKept 5 (some B) w w' := by
  refine (Any.Builder_WriteString_k Tryz.laysBW Tryz.extraW B B (Lib.byteCells l) s w h (by rw [Lib.byteCells_length]; exact hlen) hB).mono ?_
  rintro e w' ⟨he, h1, h2, h3⟩
  refine ⟨he, ?_, h2, h3⟩
  unfold Bld
  rw [Lib.byteCells_append, ← Lib.strCells_eq]
  exact .inr h1
theorem bs_any (B : Nat) (l : List UInt8) (w : World) (h : Bld B l w) (hB : B ≤ w.heap.size) :
    Calls Tryz.prog 35 #[.pointer (some ⟨B, 0, none⟩)] w fun e w' => e = .returned (.string ⟨l.toArray⟩) ∧ Below B w w' :=
  (Any.Builder_String_any_k Tryz.laysBS Tryz.extraS B B l w h hB).mono fun e w' h => ⟨h.1, h.2.2.1⟩
theorem ts_any (s p : ByteArray) (w : World) (hs : s.size ≤ 9223372036854775807) : Calls Tryz.prog 34 #[.string s, .string p] w fun e w' => e = .returned (.string ⟨(Lib.trimSuffix s.data.toList p.data.toList).toArray⟩) ∧ w' = w :=
  Any.strings_TrimSuffix Tryz.laysTSuf s p w hs
def labP (x : AL) : List UInt8 := if x.lab.toList.isEmpty then [] else x.lab.data.toList ++ [58, 32]
def bodP (x : AL) : List UInt8 := if x.tgt.toList.isEmpty then x.i.text.data.toList else Lib.trimSuffix x.i.text.data.toList [48] ++ x.tgt.data.toList
def linL (x : AL) : List UInt8 := labP x ++ bodP x ++ [10]
def textK (ls : List AL) (k : Nat) : List UInt8 := (List.range k).flatMap fun i => linL (ls.getD i al0)
def textS (ls : List AL) : ByteArray := if (first (mayL ls) ls.length).isSome then ⟨#[]⟩ else ⟨(textK ls ls.length).toArray⟩
theorem textK_succ (ls : List AL) (k : Nat) : textK ls (k + 1) = textK ls k ++ linL (ls.getD k al0) := by
  unfold textK; rw [List.range_succ, List.flatMap_append]; simp
theorem may_lab {x : AL} (h : x.may = true) : x.lab.toList.isEmpty = true ∨ labelB x.lab = true := by
  unfold AL.may at h; simp only [Bool.and_eq_true, Bool.or_eq_true] at h; exact h.1.1
theorem may_ins {x : AL} (h : x.may = true) : x.i.may = true := by
  unfold AL.may at h; simp only [Bool.and_eq_true, Bool.or_eq_true] at h; exact h.1.2
theorem may_tgt {x : AL} (h : x.may = true) : x.tgt.toList.isEmpty = true ∨ (labelB x.tgt = true ∧ jumpB x.i.op = true) ∧ x.i.c = 0 := by
  unfold AL.may at h; simp only [Bool.and_eq_true, Bool.or_eq_true, decide_eq_true_eq] at h; exact h.2
theorem lab_size {s : ByteArray} (h : s.toList.isEmpty = true ∨ labelB s = true) : s.data.toList.length ≤ 16 := by
  rcases h with h | h
  · rw [ByteArray.toList_eq] at h
    rw [List.isEmpty_iff.1 h]; simp
  · rw [size_list]; exact ((label_iff s).1 h).2.1
theorem tgt_size {x : AL} (h : x.may = true) : x.tgt.data.toList.length ≤ 16 := lab_size ((may_tgt h).imp id fun h => h.1.1)
theorem trimSuffix_len (l p : List UInt8) : (Lib.trimSuffix l p).length ≤ l.length := by unfold Lib.trimSuffix; split <;> simp
theorem lin_len {x : AL} (h : x.may = true) (hok : x.ok) : (labP x).length ≤ 18 ∧ (bodP x).length ≤ 80 ∧ (linL x).length ≤ 99 := by
  have h1 : (labP x).length ≤ 18 := by
    have := lab_size (may_lab h)
    unfold labP; split <;> simp at * ; omega
  have h2 : (bodP x).length ≤ 80 := by
    have h3 := tgt_size h
    have h4 := text_size x.i hok.i
    rw [← size_list] at h4
    have h5 := trimSuffix_len x.i.text.data.toList [48]
    unfold bodP; split
    · omega
    · rw [List.length_append]; omega
  refine ⟨h1, h2, ?_⟩
  unfold linL; simp only [List.length_append, List.length_singleton]; omega
theorem textK_len {ls : List AL} (hok : ∀ i, i < ls.length → (ls.getD i al0).ok) : ∀ k, k ≤ ls.length → (∀ j, j < k → mayL ls j = false) → (textK ls k).length ≤ 99 * k
  | 0, _, _ => by simp [textK]
  | k + 1, hk, h => by
    have := textK_len hok k (by omega) (fun j hj => h j (by omega))
    have hm : (ls.getD k al0).may = true := by have := h k (by omega); unfold mayL at this; simpa using this
    have := (lin_len hm (hok k (by omega))).2.2
    rw [textK_succ, List.length_append]; omega
set_option maxRecDepth 100000 in
set_option maxHeartbeats 4000000 in
theorem text_all (ls : List AL) (a : Option Addr) (c : Nat) (w : World) (hA : AlsAt w a ls) (hok : ∀ i, i < ls.length → (ls.getD i al0).ok) (hm : ls.length ≤ 1000000) (ht : TabW w) :
    Calls Tryz.prog 15 #[.slice a ls.length c] w fun e w' => e = .returned (.string (textS ls)) ∧ Below w.heap.size w w' := by
  have HA := Lib.hid hA; have HOKS := Lib.hid hok; have HT := Lib.hid ht
  have HLEN : Hid (∀ k, k ≤ ls.length → (∀ j, j < k → mayL ls j = false) → (textK ls k).length ≤ 99 * k) := fun k => textK_len hok k
  have HRA : Hid (∀ i, first (mayL ls) ls.length = some i → textS ls = ⟨#[]⟩) := fun i h => by unfold textS; rw [h]; rfl
  have HRC : Hid (first (mayL ls) ls.length = none → textS ls = ⟨(textK ls ls.length).toArray⟩) := fun h => by unfold textS; rw [h]; rfl
  clear hA hok ht
  generalize hn : ls.length = n at *
  have HB0 := Lib.hid (Bld.fresh w)
  have BM : Hid (Below w.heap.size w (w.alloc (.cells #[.pointer none, .slice none 0 0] 57))) := alloc_below _ _
  go_enter Tryz.func15, Tryz.ntmps15
  go_upto_region 2 with fail
  generalize w.alloc (.cells #[.pointer none, .slice none 0 0] 57) = wm at *
  go_wp2_with fail
  go_loopw [9] (fun i wr => ∃ k : Nat, k ≤ n ∧ i = .int .i64 (k : Int) ∧ Hid (∀ j, j < k → mayL ls j = false) ∧ Hid (Bld w.heap.size (textK ls k) wr) ∧ Hid (Below w.heap.size w wr)) (fun i _ => n - (intOf i).toNat)
  case atStart => exact ⟨0, Nat.zero_le _, rfl, fun j hj => absurd hj (by omega), HB0, BM⟩
  case round =>
    clear HB0 BM
    obtain ⟨k, hk, rfl, HS, HB, BB⟩ := hrel
    rcases Nat.lt_or_ge k n with hk2 | hk2
    case inr =>
      obtain rfl : k = n := by omega
      have t2 : decide ((k : Int) < (k : Int)) = false := by simp
      have HF := Lib.hid (HRC.out (first_none HS.out))
      go_wp2_with fail
      refine (bs_any w.heap.size _ wr HB.out BB.out.size).mono ?_
      rintro e w2 ⟨rfl, hb⟩
      have B2 := Lib.hid (BB.out.trans hb)
      clear hb
      go_wp2_with fail
      go_ret
      exact ⟨by rw [HF.out]; rfl, B2.out⟩
    have t2 : decide ((k : Int) < (n : Int)) = true := decide_eq_true (by omega)
    obtain ⟨b, off, rfl, hb, hc⟩ := HA.out.at (by omega)
    have a0 : wr.cell? ⟨b, off + k * 6, none⟩ = some (.string (ls.getD k al0).lab) := (BB.out.cell hb).trans (hc k (by omega) 0 (by omega))
    have a1 : wr.cell? ⟨b, off + k * 6 + 1, none⟩ = some (.int .u8 ((ls.getD k al0).i.op : Int)) := (BB.out.cell hb).trans (hc k (by omega) 1 (by omega))
    have a2 : wr.cell? ⟨b, off + k * 6 + 2, none⟩ = some (.int .u8 ((ls.getD k al0).i.a : Int)) := (BB.out.cell hb).trans (hc k (by omega) 2 (by omega))
    have a3 : wr.cell? ⟨b, off + k * 6 + 3, none⟩ = some (.int .u16 ((ls.getD k al0).i.b : Int)) := (BB.out.cell hb).trans (hc k (by omega) 3 (by omega))
    have a4 : wr.cell? ⟨b, off + k * 6 + 4, none⟩ = some (.int .u32 ((ls.getD k al0).i.c : Int)) := (BB.out.cell hb).trans (hc k (by omega) 4 (by omega))
    have a5 : wr.cell? ⟨b, off + k * 6 + 5, none⟩ = some (.string (ls.getD k al0).tgt) := (BB.out.cell hb).trans (hc k (by omega) 5 (by omega))
    clear hc
    have HO := Lib.hid (HOKS.out k hk2)
    have HMA : Hid (mayL ls k = !(ls.getD k al0).may) := rfl
    have HTK := Lib.hid (textK_succ ls k)
    have HT0 := Lib.hid (HLEN.out k (by omega) HS.out)
    generalize (ls.getD k al0) = x at *
    have HC := Lib.hid (fun W => alm_any x W HO.out)
    have HCT := Lib.hid (fun W hW => text_tab x.i W HO.out.i hW)
    have HSZ : Hid (x.i.text.size ≤ 9223372036854775807) := by have := text_size x.i HO.out.i; show _ ≤ _; omega
    have HLL0 := Lib.hid (fun h => lin_len h HO.out)
    have HMZ : Hid (x.may = true → x.lab.size ≤ 16 ∧ x.tgt.size ≤ 16) := fun h => ⟨by rw [← size_list]; exact lab_size (may_lab h), by rw [← size_list]; exact tgt_size h⟩
    have sST : x.i.text.size ≤ 64 := text_size x.i HO.out.i
    have HLN : linL x = labP x ++ bodP x ++ [10] := rfl
    have HLP : labP x = if x.lab.toList.isEmpty then [] else x.lab.data.toList ++ [58, 32] := rfl
    have HBP : bodP x = if x.tgt.toList.isEmpty then x.i.text.data.toList else Lib.trimSuffix x.i.text.data.toList [48] ++ x.tgt.data.toList := rfl
    unfold AL.val AL.cells at HC
    unfold Ins.val at HCT
    generalize x.i.text = st at *
    generalize labP x = lp at *
    generalize bodP x = bp at *
    generalize linL x = lx at *
    generalize x.may = my at *
    obtain ⟨lab, ⟨op, ia, ib, ic⟩, tgt⟩ := x
    simp only at a0 a1 a2 a3 a4 a5 HC HCT HLP HBP HMZ
    have G0 : Hid ((wr.alloc (.cells #[.string lab, .int .u8 (op : Int), .int .u8 (ia : Int), .int .u16 (ib : Int), .int .u32 (ic : Int), .string tgt] 34)).heap[wr.heap.size]? = some (.cells #[.string lab, .int .u8 (op : Int), .int .u8 (ia : Int), .int .u16 (ib : Int), .int .u32 (ic : Int), .string tgt] 34 (0, 0))) := heap_alloc_new _ _
    have H0 : Hid (Bld w.heap.size (textK ls k) (wr.alloc (.cells #[.string lab, .int .u8 (op : Int), .int .u8 (ia : Int), .int .u16 (ib : Int), .int .u32 (ic : Int), .string tgt] 34))) := HB.out.below (alloc_below _ _)
    have B0 : Hid (Below w.heap.size w (wr.alloc (.cells #[.string lab, .int .u8 (op : Int), .int .u8 (ia : Int), .int .u16 (ib : Int), .int .u32 (ic : Int), .string tgt] 34))) := BB.out.alloc BB.out.size _
    have HGN : Hid (wr.heap.size ≠ w.heap.size) := by
      have : w.heap.size < wr.heap.size := by
        rcases HB.out with ⟨_, v, h1, _⟩ | ⟨_, v, h1, _⟩ <;> exact heap_lt h1
      show _ ≠ _; omega
    go_wp2_with fail
    refine (HC.out _).mono ?_
    rintro e w2 ⟨rfl, hb2⟩
    have G2 := Lib.hid (kept G0.out hb2)
    have H2 := Lib.hid (H0.out.below hb2)
    have B2 : Hid (Below w.heap.size w w2) := B0.out.trans (hb2.mono B0.out.size)
    clear hb2 G0 H0 B0 a0 a1 a2 a3 a4 a5 HB BB HC
    generalize wr.heap.size = g at *
    cases my with
    | false =>
      have HF := Lib.hid (HRA.out k (first_some hk2 HMA.out HS.out))
      go_wp2_with fail
      go_ret
      exact ⟨by rw [HF.out]; rfl, B2.out⟩
    | true =>
    have HS' : Hid (∀ j, j < k + 1 → mayL ls j = false) := fun j hj => by rcases Nat.lt_succ_iff_lt_or_eq.1 hj with h | rfl <;> first | exact HS.out _ h | exact HMA.out
    have HLL : Hid (lx.length ≤ 99) := (HLL0.out rfl).2.2
    obtain ⟨sLB, sTG⟩ := HMZ.out rfl
    clear HLL0 HS HMA HMZ
    rw [HLN] at HLL
    have c0 := cell_row (j := 0) G2.out rfl
    have c1 := cell_row (j := 1) G2.out rfl
    have c2 := cell_row (j := 2) G2.out rfl
    have c3 := cell_row (j := 3) G2.out rfl
    have c4 := cell_row (j := 4) G2.out rfl
    have c5 := cell_row (j := 5) G2.out rfl
    cases hle : lab.toList.isEmpty with
    | true =>
      rw [hle, if_pos rfl] at HLP
      rw [HLP, List.nil_append] at HLN HLL
      clear c0 c1 c2 c3 c4 c5
      have c0 := cell_row (j := 0) G2.out rfl
      have c1 := cell_row (j := 1) G2.out rfl
      have c2 := cell_row (j := 2) G2.out rfl
      have c3 := cell_row (j := 3) G2.out rfl
      have c4 := cell_row (j := 4) G2.out rfl
      have c5 := cell_row (j := 5) G2.out rfl
      go_wp2_with fail
      refine (HCT.out w2 (HT.out.below B2.out)).mono ?_
      rintro e w4 ⟨rfl, hb⟩
      have GV := Lib.hid (kept G2.out hb)
      have HV := Lib.hid (H2.out.below hb)
      have BV : Hid (Below w.heap.size w w4) := B2.out.trans (hb.mono B2.out.size)
      clear hb G2 H2 B2 c0 c1 c2 c3 c4 c5
      have c0 := cell_row (j := 0) GV.out rfl
      have c1 := cell_row (j := 1) GV.out rfl
      have c2 := cell_row (j := 2) GV.out rfl
      have c3 := cell_row (j := 3) GV.out rfl
      have c4 := cell_row (j := 4) GV.out rfl
      have c5 := cell_row (j := 5) GV.out rfl
      cases hte : tgt.toList.isEmpty with
      | true =>
        rw [hte, if_pos rfl] at HBP
        rw [HBP] at HLN HLL
        have hlen : (textK ls k).length + (st ++ ⟨#[10]⟩).size ≤ 140737488355328 := by
          have h1 := HT0.out; have h2 := HLL.out
          rw [← size_list, show (st ++ (⟨#[10]⟩ : ByteArray)).data.toList = st.data.toList ++ [10] from data_app _ _]
          simp only [List.length_append, List.length_singleton] at *
          omega
        -- WriteString of (st ++ ⟨#[10]⟩) at world w4, the builder holding (textK ls k)
        go_wp2_with fail
        refine (bw_any w.heap.size (textK ls k) _ w4 HV.out ?len BV.out.size).mono ?_
        case len =>
          exact hlen
        rintro e w9 ⟨rfl, hb1, hb2, hb3⟩
        have B9 : Hid (Below w.heap.size w w9) := BV.out.trans hb2
        have HB9 : Hid (Bld w.heap.size (textK ls (k + 1)) w9) := by show Bld _ _ _; rw [HTK.out, HLN]; rw [show (st ++ (⟨#[10]⟩ : ByteArray)).data.toList = st.data.toList ++ [10] from data_app _ _] at hb1; simpa [List.append_assoc] using hb1
        clear hb1 hb2 hb3 hlen
        go_wp2_with fail
        go_roundw
        case rel => exact ⟨k + 1, by omega, by go_num, HS', HB9, B9⟩
        case measure => simp [intOf]; omega
      | false =>
        rw [hte, if_neg (by decide)] at HBP
        rw [HBP] at HLN HLL
        have HTS := Lib.hid (fun W => ts_any st ⟨#[48]⟩ W HSZ.out)
        have STT : ((⟨(Lib.trimSuffix st.data.toList (⟨#[48]⟩ : ByteArray).data.toList).toArray⟩ : ByteArray)).data.toList = Lib.trimSuffix st.data.toList [48] := rfl
        have sTT : (⟨(Lib.trimSuffix st.data.toList (⟨#[48]⟩ : ByteArray).data.toList).toArray⟩ : ByteArray).size ≤ 64 := by
          rw [← size_list]
          have h1 := trimSuffix_len st.data.toList [48]
          have h2 := size_list st
          show (Lib.trimSuffix st.data.toList [48]).length ≤ 64
          omega
        generalize (⟨(Lib.trimSuffix st.data.toList (⟨#[48]⟩ : ByteArray).data.toList).toArray⟩ : ByteArray) = tt at *
        go_upto_region 11 with fail
        go_quiet ((go_at_call 34; exact (HTS.out _).mono fun e w' h => ⟨h.1, _, h.2⟩))
        have H5 : Hid (Bld w.heap.size (textK ls k) (w4.drewN nq)) := HV.out
        have B5 : Hid (Below w.heap.size w (w4.drewN nq)) := ⟨BV.out.os, BV.out.tape, BV.out.output, BV.out.size, BV.out.block⟩
        generalize w4.drewN nq = w5 at *
        clear HV BV GV HTS
        have hlen : (textK ls k).length + (tt ++ tgt ++ ⟨#[10]⟩).size ≤ 140737488355328 := by
          have h1 := HT0.out; have h2 := HLL.out
          rw [← size_list, show (tt ++ tgt ++ (⟨#[10]⟩ : ByteArray)).data.toList = Lib.trimSuffix st.data.toList [48] ++ tgt.data.toList ++ [10] from by rw [data_app, data_app, STT]]
          simp only [List.length_append, List.length_singleton] at *
          omega
        -- WriteString of (tt ++ tgt ++ ⟨#[10]⟩) at world w5, the builder holding (textK ls k)
        go_wp2_with fail
        refine (bw_any w.heap.size (textK ls k) _ w5 H5.out ?len B5.out.size).mono ?_
        case len =>
          exact hlen
        rintro e w9 ⟨rfl, hb1, hb2, hb3⟩
        have B9 : Hid (Below w.heap.size w w9) := B5.out.trans hb2
        have HB9 : Hid (Bld w.heap.size (textK ls (k + 1)) w9) := by show Bld _ _ _; rw [HTK.out, HLN]; rw [show (tt ++ tgt ++ (⟨#[10]⟩ : ByteArray)).data.toList = Lib.trimSuffix st.data.toList [48] ++ tgt.data.toList ++ [10] from by rw [data_app, data_app, STT]] at hb1; simpa [List.append_assoc] using hb1
        clear hb1 hb2 hb3 hlen
        go_wp2_with fail
        go_roundw
        case rel => exact ⟨k + 1, by omega, by go_num, HS', HB9, B9⟩
        case measure => simp [intOf]; omega
    | false =>
      rw [hle, if_neg (by decide)] at HLP
      rw [HLP] at HLN HLL
      have STR : (lab ++ (⟨#[58, 32]⟩ : ByteArray)).data.toList = lab.data.toList ++ [58, 32] := data_app _ _
      have hlen0 : (textK ls k).length + (lab ++ (⟨#[58, 32]⟩ : ByteArray)).size ≤ 140737488355328 := by
        have h1 := HT0.out; have h2 := HLL.out
        rw [← size_list, STR]
        simp only [List.length_append, List.length_singleton] at *
        omega
      -- WriteString of (lab ++ ⟨#[58, 32]⟩) at world w2, the builder holding (textK ls k)
      go_wp2_with fail
      refine (bw_any w.heap.size (textK ls k) _ w2 H2.out ?len B2.out.size).mono ?_
      case len =>
        exact hlen0
      rintro e w3 ⟨rfl, hb1, hb2, hb3⟩
      have G3 : Hid (w3.heap[g]? = some (.cells #[.string lab, .int .u8 (op : Int), .int .u8 (ia : Int), .int .u16 (ib : Int), .int .u32 (ic : Int), .string tgt] 34 (0, 0))) := hb3 g _ G2.out (fun e => HGN.out (Option.some.inj e)) (fun c fz e => by cases e)
      have B3 : Hid (Below w.heap.size w w3) := B2.out.trans hb2
      rw [STR] at hb1
      have H3 := Lib.hid hb1
      clear hb1 hb2 hb3 hlen0 STR
      clear c0 c1 c2 c3 c4 c5
      have c0 := cell_row (j := 0) G3.out rfl
      have c1 := cell_row (j := 1) G3.out rfl
      have c2 := cell_row (j := 2) G3.out rfl
      have c3 := cell_row (j := 3) G3.out rfl
      have c4 := cell_row (j := 4) G3.out rfl
      have c5 := cell_row (j := 5) G3.out rfl
      go_wp2_with fail
      refine (HCT.out w3 (HT.out.below B3.out)).mono ?_
      rintro e w4 ⟨rfl, hb⟩
      have GV := Lib.hid (kept G3.out hb)
      have HV := Lib.hid (H3.out.below hb)
      have BV : Hid (Below w.heap.size w w4) := B3.out.trans (hb.mono B3.out.size)
      clear hb G3 H3 B3 c0 c1 c2 c3 c4 c5
      have c0 := cell_row (j := 0) GV.out rfl
      have c1 := cell_row (j := 1) GV.out rfl
      have c2 := cell_row (j := 2) GV.out rfl
      have c3 := cell_row (j := 3) GV.out rfl
      have c4 := cell_row (j := 4) GV.out rfl
      have c5 := cell_row (j := 5) GV.out rfl
      cases hte : tgt.toList.isEmpty with
      | true =>
        rw [hte, if_pos rfl] at HBP
        rw [HBP] at HLN HLL
        have hlen : (textK ls k ++ (lab.data.toList ++ [58, 32])).length + (st ++ ⟨#[10]⟩).size ≤ 140737488355328 := by
          have h1 := HT0.out; have h2 := HLL.out
          rw [← size_list, show (st ++ (⟨#[10]⟩ : ByteArray)).data.toList = st.data.toList ++ [10] from data_app _ _]
          simp only [List.length_append, List.length_singleton] at *
          omega
        -- WriteString of (st ++ ⟨#[10]⟩) at world w4, the builder holding (textK ls k ++ (lab.data.toList ++ [58, 32]))
        go_wp2_with fail
        refine (bw_any w.heap.size (textK ls k ++ (lab.data.toList ++ [58, 32])) _ w4 HV.out ?len BV.out.size).mono ?_
        case len =>
          exact hlen
        rintro e w9 ⟨rfl, hb1, hb2, hb3⟩
        have B9 : Hid (Below w.heap.size w w9) := BV.out.trans hb2
        have HB9 : Hid (Bld w.heap.size (textK ls (k + 1)) w9) := by show Bld _ _ _; rw [HTK.out, HLN]; rw [show (st ++ (⟨#[10]⟩ : ByteArray)).data.toList = st.data.toList ++ [10] from data_app _ _] at hb1; simpa [List.append_assoc] using hb1
        clear hb1 hb2 hb3 hlen
        go_wp2_with fail
        go_roundw
        case rel => exact ⟨k + 1, by omega, by go_num, HS', HB9, B9⟩
        case measure => simp [intOf]; omega
      | false =>
        rw [hte, if_neg (by decide)] at HBP
        rw [HBP] at HLN HLL
        have HTS := Lib.hid (fun W => ts_any st ⟨#[48]⟩ W HSZ.out)
        have STT : ((⟨(Lib.trimSuffix st.data.toList (⟨#[48]⟩ : ByteArray).data.toList).toArray⟩ : ByteArray)).data.toList = Lib.trimSuffix st.data.toList [48] := rfl
        have sTT : (⟨(Lib.trimSuffix st.data.toList (⟨#[48]⟩ : ByteArray).data.toList).toArray⟩ : ByteArray).size ≤ 64 := by
          rw [← size_list]
          have h1 := trimSuffix_len st.data.toList [48]
          have h2 := size_list st
          show (Lib.trimSuffix st.data.toList [48]).length ≤ 64
          omega
        generalize (⟨(Lib.trimSuffix st.data.toList (⟨#[48]⟩ : ByteArray).data.toList).toArray⟩ : ByteArray) = tt at *
        go_upto_region 11 with fail
        go_quiet ((go_at_call 34; exact (HTS.out _).mono fun e w' h => ⟨h.1, _, h.2⟩))
        have H5 : Hid (Bld w.heap.size (textK ls k ++ (lab.data.toList ++ [58, 32])) (w4.drewN nq)) := HV.out
        have B5 : Hid (Below w.heap.size w (w4.drewN nq)) := ⟨BV.out.os, BV.out.tape, BV.out.output, BV.out.size, BV.out.block⟩
        generalize w4.drewN nq = w5 at *
        clear HV BV GV HTS
        have hlen : (textK ls k ++ (lab.data.toList ++ [58, 32])).length + (tt ++ tgt ++ ⟨#[10]⟩).size ≤ 140737488355328 := by
          have h1 := HT0.out; have h2 := HLL.out
          rw [← size_list, show (tt ++ tgt ++ (⟨#[10]⟩ : ByteArray)).data.toList = Lib.trimSuffix st.data.toList [48] ++ tgt.data.toList ++ [10] from by rw [data_app, data_app, STT]]
          simp only [List.length_append, List.length_singleton] at *
          omega
        -- WriteString of (tt ++ tgt ++ ⟨#[10]⟩) at world w5, the builder holding (textK ls k ++ (lab.data.toList ++ [58, 32]))
        go_wp2_with fail
        refine (bw_any w.heap.size (textK ls k ++ (lab.data.toList ++ [58, 32])) _ w5 H5.out ?len B5.out.size).mono ?_
        case len =>
          exact hlen
        rintro e w9 ⟨rfl, hb1, hb2, hb3⟩
        have B9 : Hid (Below w.heap.size w w9) := B5.out.trans hb2
        have HB9 : Hid (Bld w.heap.size (textK ls (k + 1)) w9) := by show Bld _ _ _; rw [HTK.out, HLN]; rw [show (tt ++ tgt ++ (⟨#[10]⟩ : ByteArray)).data.toList = Lib.trimSuffix st.data.toList [48] ++ tgt.data.toList ++ [10] from by rw [data_app, data_app, STT]] at hb1; simpa [List.append_assoc] using hb1
        clear hb1 hb2 hb3 hlen
        go_wp2_with fail
        go_roundw
        case rel => exact ⟨k + 1, by omega, by go_num, HS', HB9, B9⟩
        case measure => simp [intOf]; omega
end Go.Proofs.YtalmgjeiopjhlaaGreatDoor
