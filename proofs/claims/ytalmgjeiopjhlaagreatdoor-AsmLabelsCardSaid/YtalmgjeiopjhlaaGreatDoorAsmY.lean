/- The document's examples. -/
import Derived.Test.YtalmgjeiopjhlaaGreatDoorAsmX
namespace Go.Proofs.YtalmgjeiopjhlaaGreatDoor
open Go.Shelf Go.RowKit
set_option linter.unusedVariables false
set_option linter.unusedSimpArgs false
set_option maxRecDepth 100000
def exA : ByteArray := ⟨#[97]⟩
def exB : ByteArray := ⟨#[98]⟩
def exL : List AL := [⟨exA, ⟨1, 0, 0, 1⟩, eS⟩, ⟨eS, ⟨19, 0, 0, 0⟩, exA⟩]
def exC : List Ins := [⟨1, 0, 0, 1⟩, ⟨19, 0, 0, 0⟩]
def exJ : List AL := [⟨eS, ⟨19, 0, 0, 0⟩, exB⟩]
def exD : List AL := [⟨exA, ⟨2, 0, 0, 0⟩, eS⟩, ⟨exA, ⟨2, 0, 0, 0⟩, eS⟩]
theorem k_parse : parseS [32, 97, 58, 32, 112, 117, 115, 104, 32, 49, 32, 59, 32, 111, 110, 101, 10, 106, 117, 109, 112, 32, 97] = (exL, 0, 0) := by kernel_rfl
theorem k_asm : asmS exL = (exC, 0, 0) := by kernel_rfl
theorem k_text : textS exL = ⟨#[97, 58, 32, 112, 117, 115, 104, 32, 49, 10, 106, 117, 109, 112, 32, 97, 10]⟩ := by kernel_rfl
theorem k_asmJ : asmS exJ = ([], 0, 101) := by kernel_rfl
theorem k_asmD : asmS exD = ([], 1, 101) := by kernel_rfl
theorem k_p0 : parseS [112, 117, 115, 104] = ([], 1, 100) := by kernel_rfl
theorem k_p1 : parseS [104, 111, 112, 32, 49] = ([], 1, 100) := by kernel_rfl
theorem k_p2 : parseS [112, 117, 115, 104, 32, 48, 49] = ([], 1, 42) := by kernel_rfl
theorem k_p3 : parseS [105, 110, 32, 49, 54] = ([], 1, 42) := by kernel_rfl
theorem k_p4 : parseS [65, 58, 32, 100, 117, 112] = ([], 1, 101) := by kernel_rfl
theorem ins_fresh {w : World} {g : Nat} (ls : List Ins) {t : TypeId} (h : w.heap[g]? = some (.cells (insVs ls).toArray t (0, 0))) : InsAt w (some ⟨g, 0, none⟩) ls := by
  refine .inr ⟨g, 0, rfl, heap_lt h, fun i hi j hj => ?_⟩
  rw [Nat.zero_add]
  refine cell_row h ?_
  rw [List.getElem?_toArray]
  exact flat_get (f := insC) (sz := 4) (fun _ => rfl) noIns ls i j hi hj
theorem als_fresh {w : World} {g : Nat} (ls : List AL) {t : TypeId} (h : w.heap[g]? = some (.cells (alVs ls).toArray t (0, 0))) : AlsAt w (some ⟨g, 0, none⟩) ls := by
  refine .inr ⟨g, 0, rfl, heap_lt h, fun i hi j hj => ?_⟩
  rw [Nat.zero_add]
  refine cell_row h ?_
  rw [List.getElem?_toArray]
  exact flat_get (f := alC) (sz := 6) (fun _ => rfl) al0 ls i j hi hj
theorem exL_ok : ∀ i, i < exL.length → (exL.getD i al0).ok := fun i hi => by
  match i, hi with
  | 0, _ => exact ⟨⟨by decide, by decide, by decide, by decide⟩, by decide, by decide⟩
  | 1, _ => exact ⟨⟨by decide, by decide, by decide, by decide⟩, by decide, by decide⟩
  | n + 2, h => exact absurd h (by show ¬ n + 2 < 2; omega)
theorem exJ_ok : ∀ i, i < exJ.length → (exJ.getD i al0).ok := fun i hi => by
  match i, hi with
  | 0, _ => exact ⟨⟨by decide, by decide, by decide, by decide⟩, by decide, by decide⟩
  | n + 1, h => exact absurd h (by show ¬ n + 1 < 1; omega)
theorem exD_ok : ∀ i, i < exD.length → (exD.getD i al0).ok := fun i hi => by
  match i, hi with
  | 0, _ => exact ⟨⟨by decide, by decide, by decide, by decide⟩, by decide, by decide⟩
  | 1, _ => exact ⟨⟨by decide, by decide, by decide, by decide⟩, by decide, by decide⟩
  | n + 2, h => exact absurd h (by show ¬ n + 2 < 2; omega)
set_option maxHeartbeats 4000000 in
theorem known_any (w : World) (hL : LibW w) : Calls Tryz.prog 8 #[] w fun e w' => e = .returned (.bool true) ∧ Below w.heap.size w w' := by
  have HL := Lib.hid hL
  clear hL
  have GI1 : Hid ((w.alloc (.cells #[.int .u8 1, .int .u8 0, .int .u16 0, .int .u32 1] 32)).heap[w.heap.size]? = some (.cells #[.int .u8 1, .int .u8 0, .int .u16 0, .int .u32 1] 32 (0, 0))) := heap_alloc_new _ _
  have B1 : Hid (Below w.heap.size w (w.alloc (.cells #[.int .u8 1, .int .u8 0, .int .u16 0, .int .u32 1] 32))) := alloc_below _ _
  go_enter Tryz.func8, Tryz.ntmps8
  go_upto_region 2 with fail
  generalize w.alloc (.cells #[.int .u8 1, .int .u8 0, .int .u16 0, .int .u32 1] 32) = w1 at *
  generalize hg : w.heap.size = g at *
  have c0 := cell_row (j := 0) GI1.out rfl
  have c1 := cell_row (j := 1) GI1.out rfl
  have c2 := cell_row (j := 2) GI1.out rfl
  have c3 := cell_row (j := 3) GI1.out rfl
  go_upto_region 3 with fail
  have GL2 : Hid ((w1.alloc (.cells #[.string ⟨#[97]⟩, .int .u8 1, .int .u8 0, .int .u16 0, .int .u32 1, .string ⟨#[]⟩, .string ⟨#[]⟩, .int .u8 19, .int .u8 0, .int .u16 0, .int .u32 0, .string ⟨#[97]⟩] 34)).heap[w1.heap.size]? = some (.cells (alVs exL).toArray 34 (0, 0))) := heap_alloc_new _ _
  have GI2 : Hid ((w1.alloc (.cells #[.string ⟨#[97]⟩, .int .u8 1, .int .u8 0, .int .u16 0, .int .u32 1, .string ⟨#[]⟩, .string ⟨#[]⟩, .int .u8 19, .int .u8 0, .int .u16 0, .int .u32 0, .string ⟨#[97]⟩] 34)).heap[g]? = _) := kept GI1.out (alloc_below _ _)
  have B2 : Hid (Below g w (w1.alloc (.cells #[.string ⟨#[97]⟩, .int .u8 1, .int .u8 0, .int .u16 0, .int .u32 1, .string ⟨#[]⟩, .string ⟨#[]⟩, .int .u8 19, .int .u8 0, .int .u16 0, .int .u32 0, .string ⟨#[97]⟩] 34))) := B1.out.alloc (Nat.le_of_lt (heap_lt GI1.out)) _
  generalize w1.alloc (.cells #[.string ⟨#[97]⟩, .int .u8 1, .int .u8 0, .int .u16 0, .int .u32 1, .string ⟨#[]⟩, .string ⟨#[]⟩, .int .u8 19, .int .u8 0, .int .u16 0, .int .u32 0, .string ⟨#[97]⟩] 34) = w2 at *
  generalize w1.heap.size = g2 at *
  clear GI1 B1 c0 c1 c2 c3
  have HG := Lib.hid hg
  have HLW : Hid (∀ W, Below g w W → LibW W) := fun W hW => HL.out.below (by rw [HG.out]; exact hW)
  clear HL
  go_wp2_with fail
  have HA := asm_any exL (some ⟨g2, 0, none⟩) 2 w2 (als_fresh exL GL2.out) exL_ok (by decide)
  rw [show exL.length = 2 from rfl, k_asm] at HA
  have HAH := Lib.hid HA
  clear HA
  refine HAH.out.mono ?_
  rintro e w3 ⟨⟨v3, rfl, ho3⟩, hb3⟩
  clear HAH
  obtain ⟨a3, k3, hv3, _, _, ha3⟩ := ins_of_own (ls := exC) ho3
  subst hv3
  have IA3 := Lib.hid ha3
  have GI3 := Lib.hid (kept GI2.out hb3)
  have GL3 := Lib.hid (kept GL2.out hb3)
  have B3 : Hid (Below g w w3) := B2.out.trans (hb3.mono (Nat.le_of_lt (heap_lt GI2.out)))
  clear hb3 GI2 GL2 B2
  clear ho3 ha3
  rw [show exC.length = 2 from rfl]
  go_wp2_with fail
  have HP := parse_any ⟨#[32, 97, 58, 32, 112, 117, 115, 104, 32, 49, 32, 59, 32, 111, 110, 101, 10, 106, 117, 109, 112, 32, 97]⟩ w3 (by decide) (HLW.out _ B3.out)
  rw [show (ByteArray.mk #[32, 97, 58, 32, 112, 117, 115, 104, 32, 49, 32, 59, 32, 111, 110, 101, 10, 106, 117, 109, 112, 32, 97]).data.toList = [32, 97, 58, 32, 112, 117, 115, 104, 32, 49, 32, 59, 32, 111, 110, 101, 10, 106, 117, 109, 112, 32, 97] from rfl, k_parse] at HP
  have HPH := Lib.hid HP
  clear HP
  refine HPH.out.mono ?_
  rintro e w4 ⟨⟨v4, rfl, ho4⟩, hb4⟩
  clear HPH
  obtain ⟨a4, k4, hv4, _, _, ha4⟩ := als_of_own (ls := exL) ho4
  subst hv4
  have LA4 := Lib.hid ha4
  have IA4 := Lib.hid (IA3.out.below hb4)
  have GI4 := Lib.hid (kept GI3.out hb4)
  have GL4 := Lib.hid (kept GL3.out hb4)
  have B4 : Hid (Below g w w4) := B3.out.trans (hb4.mono (Nat.le_of_lt (heap_lt GI3.out)))
  clear hb4 GI3 GL3 B3
  clear ho4 ha4 IA3
  rw [show exL.length = 2 from rfl]
  have c0 := cell_row (j := 0) GI4.out rfl
  have c1 := cell_row (j := 1) GI4.out rfl
  have c2 := cell_row (j := 2) GI4.out rfl
  have c3 := cell_row (j := 3) GI4.out rfl
  go_wp2_with fail
  have GN5 : Hid ((w4.alloc (.cells #[.int .u8 1, .int .u8 0, .int .u16 0, .int .u32 1, .int .u8 19, .int .u8 0, .int .u16 0, .int .u32 0] 32)).heap[w4.heap.size]? = some (.cells (insVs exC).toArray 32 (0, 0))) := heap_alloc_new _ _
  have hb5 : Below w4.heap.size w4 (w4.alloc (.cells #[.int .u8 1, .int .u8 0, .int .u16 0, .int .u32 1, .int .u8 19, .int .u8 0, .int .u16 0, .int .u32 0] 32)) := alloc_below _ _
  generalize w4.alloc (.cells #[.int .u8 1, .int .u8 0, .int .u16 0, .int .u32 1, .int .u8 19, .int .u8 0, .int .u16 0, .int .u32 0] 32) = w5 at *
  have IA5 := Lib.hid (IA4.out.below hb5)
  have LA5 := Lib.hid (LA4.out.below hb5)
  have GI5 := Lib.hid (kept GI4.out hb5)
  have GL5 := Lib.hid (kept GL4.out hb5)
  have B5 : Hid (Below g w w5) := B4.out.trans (hb5.mono (Nat.le_of_lt (heap_lt GI4.out)))
  clear hb5 GI4 GL4 B4
  generalize w4.heap.size = g4 at *
  clear IA4 LA4 c0 c1 c2
  have HS := scode_true exC a3 (some ⟨g4, 0, none⟩) k3 2 w5 IA5.out (ins_fresh exC GN5.out) (by decide)
  rw [show exC.length = 2 from rfl] at HS
  have HSH := Lib.hid HS
  clear HS
  refine HSH.out.mono ?_
  rintro e w6 ⟨rfl, hb6⟩
  have LA6 := Lib.hid (LA5.out.below hb6)
  have GI6 := Lib.hid (kept GI5.out hb6)
  have GL6 := Lib.hid (kept GL5.out hb6)
  have B6 : Hid (Below g w w6) := B5.out.trans (hb6.mono (Nat.le_of_lt (heap_lt GI5.out)))
  clear hb6 GI5 GL5 B5
  clear HSH IA5 LA5 GN5
  go_wp2_with fail
  have HS := same_true exL a4 (some ⟨g2, 0, none⟩) k4 2 w6 LA6.out (als_fresh exL GL6.out) (by decide)
  rw [show exL.length = 2 from rfl] at HS
  have HSH := Lib.hid HS
  clear HS
  refine HSH.out.mono ?_
  rintro e w7 ⟨rfl, hb7⟩
  have GI7 := Lib.hid (kept GI6.out hb7)
  have GL7 := Lib.hid (kept GL6.out hb7)
  have B7 : Hid (Below g w w7) := B6.out.trans (hb7.mono (Nat.le_of_lt (heap_lt GI6.out)))
  clear hb7 GI6 GL6 B6
  clear HSH LA6
  go_wp2_with fail
  have HX := text_all exL (some ⟨g2, 0, none⟩) 2 w7 (als_fresh exL GL7.out) exL_ok (by decide) (HLW.out _ B7.out).tab
  rw [show exL.length = 2 from rfl, k_text] at HX
  have HXH := Lib.hid HX
  clear HX
  refine HXH.out.mono ?_
  rintro e w8 ⟨rfl, hb8⟩
  have GI8 := Lib.hid (kept GI7.out hb8)
  have GL8 := Lib.hid (kept GL7.out hb8)
  have B8 : Hid (Below g w w8) := B7.out.trans (hb8.mono (Nat.le_of_lt (heap_lt GI7.out)))
  clear hb8 GI7 GL7 B7
  clear HXH
  have te : ((⟨#[97, 58, 32, 112, 117, 115, 104, 32, 49, 10, 106, 117, 109, 112, 32, 97, 10]⟩ : ByteArray).toList == (⟨#[97, 58, 32, 112, 117, 115, 104, 32, 49, 10, 106, 117, 109, 112, 32, 97, 10]⟩ : ByteArray).toList) = true := by rw [str_eq]; rfl
  go_upto_region 7 with fail
  clear te
  have GT9 : Hid ((w8.alloc (.cells #[.string ⟨#[112, 117, 115, 104]⟩, .string ⟨#[104, 111, 112, 32, 49]⟩, .string ⟨#[112, 117, 115, 104, 32, 48, 49]⟩, .string ⟨#[105, 110, 32, 49, 54]⟩, .string ⟨#[65, 58, 32, 100, 117, 112]⟩] 9)).heap[w8.heap.size]? = some (.cells #[.string ⟨#[112, 117, 115, 104]⟩, .string ⟨#[104, 111, 112, 32, 49]⟩, .string ⟨#[112, 117, 115, 104, 32, 48, 49]⟩, .string ⟨#[105, 110, 32, 49, 54]⟩, .string ⟨#[65, 58, 32, 100, 117, 112]⟩] 9 (0, 0))) := heap_alloc_new _ _
  have B9 : Hid (Below g w (w8.alloc (.cells #[.string ⟨#[112, 117, 115, 104]⟩, .string ⟨#[104, 111, 112, 32, 49]⟩, .string ⟨#[112, 117, 115, 104, 32, 48, 49]⟩, .string ⟨#[105, 110, 32, 49, 54]⟩, .string ⟨#[65, 58, 32, 100, 117, 112]⟩] 9))) := B8.out.alloc (Nat.le_of_lt (heap_lt GI8.out)) _
  go_upto_block 0 with fail
  generalize w8.alloc (.cells #[.string ⟨#[112, 117, 115, 104]⟩, .string ⟨#[104, 111, 112, 32, 49]⟩, .string ⟨#[112, 117, 115, 104, 32, 48, 49]⟩, .string ⟨#[105, 110, 32, 49, 54]⟩, .string ⟨#[65, 58, 32, 100, 117, 112]⟩] 9) = w9 at *
  generalize w8.heap.size = g8 at *
  have B9' : Hid (g ≤ w9.heap.size) := by have := B9.out.size; rw [HG.out] at this; exact this
  clear GI8 GL8 B8
  go_wp2_with fail
  go_loopw [67] (fun i wr => ∃ k : Nat, k ≤ 5 ∧ i = .int .i64 (k : Int) ∧ Hid (Below w9.heap.size w9 wr)) (fun i _ => 5 - (intOf i).toNat)
  case atStart => exact ⟨0, by omega, rfl, Below.refl _ _⟩
  case round =>
    obtain ⟨k, hk, rfl, HB⟩ := hrel
    have GTr := Lib.hid (kept GT9.out HB.out)
    have Br : Hid (Below g w wr) := B9.out.trans (HB.out.mono B9'.out)
    rcases (show k = 0 ∨ k = 1 ∨ k = 2 ∨ k = 3 ∨ k = 4 ∨ k = 5 by omega) with rfl | rfl | rfl | rfl | rfl | rfl
    · have d0 := cell_row (j := 0) GTr.out rfl
      go_wp2_with fail
      have HP := parse_any ⟨#[112, 117, 115, 104]⟩ wr (by decide) (HLW.out _ Br.out)
      rw [show (ByteArray.mk #[112, 117, 115, 104]).data.toList = [112, 117, 115, 104] from rfl, k_p0] at HP
      have HPH := Lib.hid HP
      clear HP
      refine HPH.out.mono ?_
      rintro e w10 ⟨⟨v4, rfl, ho4⟩, hb4⟩
      clear HPH
      obtain ⟨a4, k4, hv4, _, _, _⟩ := als_of_own (ls := []) ho4
      subst hv4
      have HB2 : Hid (Below w9.heap.size w9 w10) := HB.out.trans (hb4.mono HB.out.size)
      clear ho4 hb4 d0 HB GTr Br
      have HBC : Hid (Below w9.heap.size w9 (w10.alloc (.cells #[.int .i64 100, .int .i64 100, .int .i64 42, .int .i64 42, .int .i64 101] 26))) := HB2.out.alloc HB2.out.size _
      go_wp2_with fail
      go_roundw
      case rel => exact ⟨0 + 1, by omega, by first | rfl | go_num, HBC⟩
      case measure => simp [intOf]
    · have d0 := cell_row (j := 1) GTr.out rfl
      go_wp2_with fail
      have HP := parse_any ⟨#[104, 111, 112, 32, 49]⟩ wr (by decide) (HLW.out _ Br.out)
      rw [show (ByteArray.mk #[104, 111, 112, 32, 49]).data.toList = [104, 111, 112, 32, 49] from rfl, k_p1] at HP
      have HPH := Lib.hid HP
      clear HP
      refine HPH.out.mono ?_
      rintro e w10 ⟨⟨v4, rfl, ho4⟩, hb4⟩
      clear HPH
      obtain ⟨a4, k4, hv4, _, _, _⟩ := als_of_own (ls := []) ho4
      subst hv4
      have HB2 : Hid (Below w9.heap.size w9 w10) := HB.out.trans (hb4.mono HB.out.size)
      clear ho4 hb4 d0 HB GTr Br
      have HBC : Hid (Below w9.heap.size w9 (w10.alloc (.cells #[.int .i64 100, .int .i64 100, .int .i64 42, .int .i64 42, .int .i64 101] 26))) := HB2.out.alloc HB2.out.size _
      go_wp2_with fail
      go_roundw
      case rel => exact ⟨1 + 1, by omega, by first | rfl | go_num, HBC⟩
      case measure => simp [intOf]
    · have d0 := cell_row (j := 2) GTr.out rfl
      go_wp2_with fail
      have HP := parse_any ⟨#[112, 117, 115, 104, 32, 48, 49]⟩ wr (by decide) (HLW.out _ Br.out)
      rw [show (ByteArray.mk #[112, 117, 115, 104, 32, 48, 49]).data.toList = [112, 117, 115, 104, 32, 48, 49] from rfl, k_p2] at HP
      have HPH := Lib.hid HP
      clear HP
      refine HPH.out.mono ?_
      rintro e w10 ⟨⟨v4, rfl, ho4⟩, hb4⟩
      clear HPH
      obtain ⟨a4, k4, hv4, _, _, _⟩ := als_of_own (ls := []) ho4
      subst hv4
      have HB2 : Hid (Below w9.heap.size w9 w10) := HB.out.trans (hb4.mono HB.out.size)
      clear ho4 hb4 d0 HB GTr Br
      have HBC : Hid (Below w9.heap.size w9 (w10.alloc (.cells #[.int .i64 100, .int .i64 100, .int .i64 42, .int .i64 42, .int .i64 101] 26))) := HB2.out.alloc HB2.out.size _
      go_wp2_with fail
      go_roundw
      case rel => exact ⟨2 + 1, by omega, by first | rfl | go_num, HBC⟩
      case measure => simp [intOf]
    · have d0 := cell_row (j := 3) GTr.out rfl
      go_wp2_with fail
      have HP := parse_any ⟨#[105, 110, 32, 49, 54]⟩ wr (by decide) (HLW.out _ Br.out)
      rw [show (ByteArray.mk #[105, 110, 32, 49, 54]).data.toList = [105, 110, 32, 49, 54] from rfl, k_p3] at HP
      have HPH := Lib.hid HP
      clear HP
      refine HPH.out.mono ?_
      rintro e w10 ⟨⟨v4, rfl, ho4⟩, hb4⟩
      clear HPH
      obtain ⟨a4, k4, hv4, _, _, _⟩ := als_of_own (ls := []) ho4
      subst hv4
      have HB2 : Hid (Below w9.heap.size w9 w10) := HB.out.trans (hb4.mono HB.out.size)
      clear ho4 hb4 d0 HB GTr Br
      have HBC : Hid (Below w9.heap.size w9 (w10.alloc (.cells #[.int .i64 100, .int .i64 100, .int .i64 42, .int .i64 42, .int .i64 101] 26))) := HB2.out.alloc HB2.out.size _
      go_wp2_with fail
      go_roundw
      case rel => exact ⟨3 + 1, by omega, by first | rfl | go_num, HBC⟩
      case measure => simp [intOf]
    · have d0 := cell_row (j := 4) GTr.out rfl
      go_wp2_with fail
      have HP := parse_any ⟨#[65, 58, 32, 100, 117, 112]⟩ wr (by decide) (HLW.out _ Br.out)
      rw [show (ByteArray.mk #[65, 58, 32, 100, 117, 112]).data.toList = [65, 58, 32, 100, 117, 112] from rfl, k_p4] at HP
      have HPH := Lib.hid HP
      clear HP
      refine HPH.out.mono ?_
      rintro e w10 ⟨⟨v4, rfl, ho4⟩, hb4⟩
      clear HPH
      obtain ⟨a4, k4, hv4, _, _, _⟩ := als_of_own (ls := []) ho4
      subst hv4
      have HB2 : Hid (Below w9.heap.size w9 w10) := HB.out.trans (hb4.mono HB.out.size)
      clear ho4 hb4 d0 HB GTr Br
      have HBC : Hid (Below w9.heap.size w9 (w10.alloc (.cells #[.int .i64 100, .int .i64 100, .int .i64 42, .int .i64 42, .int .i64 101] 26))) := HB2.out.alloc HB2.out.size _
      go_wp2_with fail
      go_roundw
      case rel => exact ⟨4 + 1, by omega, by first | rfl | go_num, HBC⟩
      case measure => simp [intOf]
    · skip
      clear GTr HB GT9
      go_upto_region 15 with fail
      have GB0 : Hid ((wr.alloc (.cells #[.string ⟨#[97]⟩, .int .u8 2, .int .u8 0, .int .u16 0, .int .u32 0, .string ⟨#[]⟩] 34)).heap[wr.heap.size]? = some (.cells #[.string ⟨#[97]⟩, .int .u8 2, .int .u8 0, .int .u16 0, .int .u32 0, .string ⟨#[]⟩] 34 (0, 0))) := heap_alloc_new _ _
      have hgr : g ≤ wr.heap.size := by have := Br.out.size; rw [HG.out] at this; exact this
      have B20 : Hid (Below g w (wr.alloc (.cells #[.string ⟨#[97]⟩, .int .u8 2, .int .u8 0, .int .u16 0, .int .u32 0, .string ⟨#[]⟩] 34))) := Br.out.alloc hgr _
      generalize wr.alloc (.cells #[.string ⟨#[97]⟩, .int .u8 2, .int .u8 0, .int .u16 0, .int .u32 0, .string ⟨#[]⟩] 34) = w20 at *
      generalize wr.heap.size = g20 at *
      clear Br
      go_wp2_with fail
      have GJ : Hid ((w20.alloc (.cells #[.string ⟨#[]⟩, .int .u8 19, .int .u8 0, .int .u16 0, .int .u32 0, .string ⟨#[98]⟩] 34)).heap[w20.heap.size]? = some (.cells (alVs exJ).toArray 34 (0, 0))) := heap_alloc_new _ _
      have GB1 : Hid ((w20.alloc (.cells #[.string ⟨#[]⟩, .int .u8 19, .int .u8 0, .int .u16 0, .int .u32 0, .string ⟨#[98]⟩] 34)).heap[g20]? = _) := kept GB0.out (alloc_below _ _)
      have B21 : Hid (Below g w (w20.alloc (.cells #[.string ⟨#[]⟩, .int .u8 19, .int .u8 0, .int .u16 0, .int .u32 0, .string ⟨#[98]⟩] 34))) := B20.out.alloc (Nat.le_trans hgr (Nat.le_of_lt (heap_lt GB0.out))) _
      generalize w20.alloc (.cells #[.string ⟨#[]⟩, .int .u8 19, .int .u8 0, .int .u16 0, .int .u32 0, .string ⟨#[98]⟩] 34) = w21 at *
      generalize w20.heap.size = g21 at *
      clear GB0 B20
      have HA := asm_any exJ (some ⟨g21, 0, none⟩) 1 w21 (als_fresh exJ GJ.out) exJ_ok (by decide)
      rw [show exJ.length = 1 from rfl, k_asmJ] at HA
      have HAH := Lib.hid HA
      clear HA
      refine HAH.out.mono ?_
      rintro e w22 ⟨⟨v3, rfl, ho3⟩, hb3⟩
      clear HAH
      have GB2 := Lib.hid (kept GB1.out hb3)
      have B22 : Hid (Below g w w22) := B21.out.trans (hb3.mono (Nat.le_trans hgr (Nat.le_of_lt (heap_lt GB1.out))))
      clear ho3 hb3 GB1 B21 GJ
      have d0 := cell_row (j := 0) GB2.out rfl
      have d1 := cell_row (j := 1) GB2.out rfl
      have d2 := cell_row (j := 2) GB2.out rfl
      have d3 := cell_row (j := 3) GB2.out rfl
      have d4 := cell_row (j := 4) GB2.out rfl
      have d5 := cell_row (j := 5) GB2.out rfl
      go_wp2_with fail
      have GD : Hid ((w22.alloc (.cells #[.string ⟨#[97]⟩, .int .u8 2, .int .u8 0, .int .u16 0, .int .u32 0, .string ⟨#[]⟩, .string ⟨#[97]⟩, .int .u8 2, .int .u8 0, .int .u16 0, .int .u32 0, .string ⟨#[]⟩] 34)).heap[w22.heap.size]? = some (.cells (alVs exD).toArray 34 (0, 0))) := heap_alloc_new _ _
      have B23 : Hid (Below g w (w22.alloc (.cells #[.string ⟨#[97]⟩, .int .u8 2, .int .u8 0, .int .u16 0, .int .u32 0, .string ⟨#[]⟩, .string ⟨#[97]⟩, .int .u8 2, .int .u8 0, .int .u16 0, .int .u32 0, .string ⟨#[]⟩] 34))) := B22.out.alloc (Nat.le_trans hgr (Nat.le_of_lt (heap_lt GB2.out))) _
      generalize w22.alloc (.cells #[.string ⟨#[97]⟩, .int .u8 2, .int .u8 0, .int .u16 0, .int .u32 0, .string ⟨#[]⟩, .string ⟨#[97]⟩, .int .u8 2, .int .u8 0, .int .u16 0, .int .u32 0, .string ⟨#[]⟩] 34) = w23 at *
      have hg23 : g ≤ w23.heap.size := by have := B23.out.size; rw [HG.out] at this; exact this
      generalize w22.heap.size = g22 at *
      clear GB2 B22 d0 d1 d2 d3 d4 d5
      have HA := asm_any exD (some ⟨g22, 0, none⟩) 2 w23 (als_fresh exD GD.out) exD_ok (by decide)
      rw [show exD.length = 2 from rfl, k_asmD] at HA
      have HAH := Lib.hid HA
      clear HA
      refine HAH.out.mono ?_
      rintro e w24 ⟨⟨v3, rfl, ho3⟩, hb3⟩
      clear HAH
      have B24 : Hid (Below g w w24) := B23.out.trans (hb3.mono hg23)
      clear ho3 hb3 B23 GD
      go_wp2_with fail
      go_ret
      exact ⟨rfl, by rw [HG.out]; exact B24.out⟩
end Go.Proofs.YtalmgjeiopjhlaaGreatDoor
