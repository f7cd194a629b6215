/- The chapter's rows. -/
import Derived.Test.YtfochgpjpngnlaaMemLoad
import Derived.Test.YtfochgpjpngnlaaMemNew
namespace Go.Proofs.Ytfochgpjpngnlaa
open Go.RowKit
set_option linter.unusedVariables false
set_option linter.unusedSectionVars false
def twoL (i : Nat) : Reg := if i = 0 then ⟨0, 4, 3⟩ else ⟨4, 4, 1⟩
theorem two_any (w : World) : Calls Try.prog 25 #[] w fun e w' => (∃ a c, e = .returned (.slice a 2 c) ∧ RegsAt w' a 2 twoL) ∧ Below w.heap.size w w' := by
  have HB : Hid (Below w.heap.size w (w.alloc (.cells #[.int .u32 0, .int .u32 4, .int .u8 3, .int .u32 4, .int .u32 4, .int .u8 1] 64))) := (Below.refl _ w).alloc (Nat.le_refl _) _
  have HR : Hid (RegsAt (w.alloc (.cells #[.int .u32 0, .int .u32 4, .int .u8 3, .int .u32 4, .int .u32 4, .int .u8 1] 64)) (some ⟨w.heap.size, 0, none⟩) 2 twoL) := by
    refine ⟨.inr ⟨w.heap.size, 0, rfl, by simp, fun i hi j hj => ?_⟩, fun i => ?_⟩
    · refine cell_row (heap_alloc_new _ _) ?_
      match i, hi, j, hj with
      | 0, _, 0, _ => rfl
      | 0, _, 1, _ => rfl
      | 0, _, 2, _ => rfl
      | 1, _, 0, _ => rfl
      | 1, _, 1, _ => rfl
      | 1, _, 2, _ => rfl
    · unfold twoL
      split
      · exact ⟨by show 0 < 4294967296; omega, by show 4 < 4294967296; omega, by show 3 < 256; omega⟩
      · exact ⟨by show 4 < 4294967296; omega, by show 4 < 4294967296; omega, by show 1 < 256; omega⟩
  go_enter Try.func25, Try.ntmps25
  go_wp2_with fail
  go_ret
  exact ⟨⟨_, _, rfl, HR.out⟩, HB.out⟩
section
variable (g : Nat) (M : MS) (hg : M.g = g) (n : Nat) (hn : M.n = n) (B : Nat → Nat) (hB : M.B = B) (a : Option Addr) (l c : Nat) (L : Nat → Reg) (at_ k : Nat) (w : World) (h : MemAt w 57 M)
include hg hn hB h
theorem load_g (hL : RegsAt w a l L) (hl : l ≤ 9223372036854775807) (h1 : at_ < 4294967296) (h2 : k < 256) (X : Nat) (E : Int) (hX : leN B at_ (mayM n L l at_ k 1) = X) (hE : mayE n L l at_ k 1 = E) :
    Calls Try.prog 17 #[.pointer (some ⟨g, 0, none⟩), .slice a l c, .int .u32 (at_ : Int), .int .u8 (k : Int)] w fun e w' => e = .returned (.tuple #[.int .u32 (X : Int), .int .i64 E]) ∧ Below w.heap.size w w' := by
  subst hg; subst hn; subst hB; subst hX; subst hE
  exact load_any M a l c L at_ k w h hL hl h1 h2
theorem store_g (hL : RegsAt w a l L) (hl : l ≤ 9223372036854775807) (h1 : at_ < 4294967296) (h2 : k < 256) (x : Nat) (hx : x < 4294967296) (E : Int) (m : Nat) (hm : mayM n L l at_ k 2 = m) (hE : mayE n L l at_ k 2 = E) :
    Calls Try.prog 19 #[.pointer (some ⟨g, 0, none⟩), .slice a l c, .int .u32 (at_ : Int), .int .u8 (k : Int), .int .u32 (x : Int)] w fun e w' => e = .returned (.int .i64 E) ∧ MemAt w' 57 (M.put at_ m (stB x)) ∧ Only M.W w w' := by
  subst hg; subst hn; subst hB; subst hm; subst hE
  exact store_any M a l c L at_ k x w h hL hl h1 h2 hx
theorem get_g (h1 : at_ < 4294967296) (h2 : k < 4294967296) (E : Int) (m : Nat) (hm : partM n at_ k = m) (hE : partE n at_ k = E) :
    Calls Try.prog 15 #[.pointer (some ⟨g, 0, none⟩), .int .u32 (at_ : Int), .int .u32 (k : Int)] w fun e w' => ∃ v, e = .returned (.tuple #[v, .int .i64 E]) ∧ GotAt w w' v m (fun i => B (at_ + i)) := by
  subst hg; subst hn; subst hB; subst hm; subst hE
  exact get_any M at_ k w h h1 h2
end
theorem only_below {M : MS} {B : Nat} {w0 w1 w2 : World} (ho : Only M.W w1 w2) (h : Below B w0 w1) (hs : B ≤ w1.heap.size) (hB : 0 < M.n → B ≤ M.b) : Below B w0 w2 := h.trans (ho.below hs fun i hi hm => by have h1 := hB hm.1; have h2 := hm.2; omega)
def kB (j : Nat) : Nat := if 0 ≤ j ∧ j < 0 + 4 then stB 258 (j - 0) else 0
set_option maxHeartbeats 8000000 in
set_option maxRecDepth 100000 in
theorem known_any (w : World) : Calls Try.prog 6 #[] w fun e w' => e = .returned (.bool true) ∧ Below w.heap.size w w' := by
  go_enter Try.func6, Try.ntmps6
  go_wp2_with fail
  refine (show Calls Try.prog 8 #[.int .u32 8] w _ from new_ok 8 w (by omega)).mono ?_
  rintro e w1 ⟨M, rfl, hm⟩
  have N := Lib.hid hm
  have B1 : Hid (Below w.heap.size w w1) := hm.below
  clear hm
  go_wp2_with fail
  refine (two_any w1).mono ?_
  rintro e w2 ⟨⟨a2, c2, rfl, hr⟩, hb⟩
  have R2 := Lib.hid hr
  have B2 : Hid (Below w.heap.size w w2) := B1.out.trans (hb.mono B1.out.size)
  have M2 : Hid (MemAt w2 57 M) := N.out.mem.below hb
  clear hr hb
  go_wp2_with fail
  refine (show Calls Try.prog 19 #[.pointer (some ⟨M.g, 0, none⟩), .slice a2 2 c2, .int .u32 0, .int .u8 4, .int .u32 258] w2 _ from store_g M.g M rfl 8 N.out.eN (fun _ => 0) N.out.eB a2 2 c2 twoL 0 4 w2 M2.out R2.out (by omega) (by omega) (by omega) 258 (by omega) 0 4 (by decide) (by decide)).mono ?_
  rintro e w3 ⟨rfl, hm, ho⟩
  obtain ⟨M1, hM1⟩ : ∃ x, x = M.put 0 4 (stB 258) := ⟨_, rfl⟩
  rw [← hM1] at hm
  have HG : Hid (M1.g = M.g) := by show _ = _; rw [hM1]; rfl
  have HN : Hid (M1.n = 8) := by show _ = _; rw [hM1]; exact N.out.eN
  have HBB : Hid (0 < M1.n → w.heap.size ≤ M1.b) := fun _ => by rw [hM1]; exact N.out.b (by omega)
  have HB : Hid (M1.B = kB) := by
    rw [hM1]
    show (fun j => if 0 ≤ j ∧ j < 0 + 4 then stB 258 (j - 0) else M.B j) = kB
    rw [N.out.eB]; rfl
  have M3 := Lib.hid hm
  have B3 : Hid (Below w.heap.size w w3) := only_below ho B2.out B2.out.size (fun h => N.out.b (by omega))
  clear hm ho hM1
  go_wp2_with fail
  skip
  refine (two_any w3).mono ?_
  rintro e w30 ⟨⟨a30, c30, rfl, hr⟩, hb⟩
  have R30 := Lib.hid hr
  have B30 : Hid (Below w.heap.size w w30) := B3.out.trans (hb.mono B3.out.size)
  have M30 : Hid (MemAt w30 57 M1) := M3.out.below hb
  clear hr hb
  go_wp2_with fail
  refine (show Calls Try.prog 17 #[.pointer (some ⟨M.g, 0, none⟩), .slice a30 2 c30, .int .u32 0, .int .u8 2] w30 _ from load_g M.g M1 HG.out 8 HN.out kB HB.out a30 2 c30 twoL 0 2 w30 M30.out R30.out (by omega) (by omega) (by omega) 258 0 (by decide) (by decide)).mono ?_
  rintro e w4 ⟨rfl, hb⟩
  have B4 : Hid (Below w.heap.size w w4) := B30.out.trans (hb.mono B30.out.size)
  have M4 : Hid (MemAt w4 57 M1) := M30.out.below hb
  clear hb
  go_wp2_with fail
  skip
  refine (two_any w4).mono ?_
  rintro e w40 ⟨⟨a40, c40, rfl, hr⟩, hb⟩
  have R40 := Lib.hid hr
  have B40 : Hid (Below w.heap.size w w40) := B4.out.trans (hb.mono B4.out.size)
  have M40 : Hid (MemAt w40 57 M1) := M4.out.below hb
  clear hr hb
  go_wp2_with fail
  refine (show Calls Try.prog 17 #[.pointer (some ⟨M.g, 0, none⟩), .slice a40 2 c40, .int .u32 1, .int .u8 1] w40 _ from load_g M.g M1 HG.out 8 HN.out kB HB.out a40 2 c40 twoL 1 1 w40 M40.out R40.out (by omega) (by omega) (by omega) 1 0 (by decide) (by decide)).mono ?_
  rintro e w5 ⟨rfl, hb⟩
  have B5 : Hid (Below w.heap.size w w5) := B40.out.trans (hb.mono B40.out.size)
  have M5 : Hid (MemAt w5 57 M1) := M40.out.below hb
  clear hb
  go_wp2_with fail
  skip
  refine (two_any w5).mono ?_
  rintro e w50 ⟨⟨a50, c50, rfl, hr⟩, hb⟩
  have R50 := Lib.hid hr
  have B50 : Hid (Below w.heap.size w w50) := B5.out.trans (hb.mono B5.out.size)
  have M50 : Hid (MemAt w50 57 M1) := M5.out.below hb
  clear hr hb
  go_wp2_with fail
  refine (show Calls Try.prog 17 #[.pointer (some ⟨M.g, 0, none⟩), .slice a50 2 c50, .int .u32 2, .int .u8 4] w50 _ from load_g M.g M1 HG.out 8 HN.out kB HB.out a50 2 c50 twoL 2 4 w50 M50.out R50.out (by omega) (by omega) (by omega) 0 60 (by decide) (by decide)).mono ?_
  rintro e w6 ⟨rfl, hb⟩
  have B6 : Hid (Below w.heap.size w w6) := B50.out.trans (hb.mono B50.out.size)
  have M6 : Hid (MemAt w6 57 M1) := M50.out.below hb
  clear hb
  go_wp2_with fail
  refine (two_any w6).mono ?_
  rintro e w60 ⟨⟨a60, c60, rfl, hr⟩, hb⟩
  have R60 := Lib.hid hr
  have B60 : Hid (Below w.heap.size w w60) := B6.out.trans (hb.mono B6.out.size)
  have M60 : Hid (MemAt w60 57 M1) := M6.out.below hb
  clear hr hb
  go_wp2_with fail
  refine (show Calls Try.prog 19 #[.pointer (some ⟨M.g, 0, none⟩), .slice a60 2 c60, .int .u32 4, .int .u8 1, .int .u32 7] w60 _ from store_g M.g M1 HG.out 8 HN.out kB HB.out a60 2 c60 twoL 4 1 w60 M60.out R60.out (by omega) (by omega) (by omega) 7 (by omega) 60 0 (by decide) (by decide)).mono ?_
  rintro e w7 ⟨rfl, hm, ho⟩
  rw [put_zero] at hm
  have M7 := Lib.hid hm
  have B7 : Hid (Below w.heap.size w w7) := only_below ho B60.out B60.out.size HBB.out
  clear hm ho
  go_wp2_with fail
  skip
  refine (two_any w7).mono ?_
  rintro e w70 ⟨⟨a70, c70, rfl, hr⟩, hb⟩
  have R70 := Lib.hid hr
  have B70 : Hid (Below w.heap.size w w70) := B7.out.trans (hb.mono B7.out.size)
  have M70 : Hid (MemAt w70 57 M1) := M7.out.below hb
  clear hr hb
  go_wp2_with fail
  refine (show Calls Try.prog 17 #[.pointer (some ⟨M.g, 0, none⟩), .slice a70 2 c70, .int .u32 4, .int .u8 1] w70 _ from load_g M.g M1 HG.out 8 HN.out kB HB.out a70 2 c70 twoL 4 1 w70 M70.out R70.out (by omega) (by omega) (by omega) 0 0 (by decide) (by decide)).mono ?_
  rintro e w8 ⟨rfl, hb⟩
  have B8 : Hid (Below w.heap.size w w8) := B70.out.trans (hb.mono B70.out.size)
  have M8 : Hid (MemAt w8 57 M1) := M70.out.below hb
  clear hb
  go_wp2_with fail
  skip
  refine (two_any w8).mono ?_
  rintro e w80 ⟨⟨a80, c80, rfl, hr⟩, hb⟩
  have R80 := Lib.hid hr
  have B80 : Hid (Below w.heap.size w w80) := B8.out.trans (hb.mono B8.out.size)
  have M80 : Hid (MemAt w80 57 M1) := M8.out.below hb
  clear hr hb
  go_wp2_with fail
  refine (show Calls Try.prog 17 #[.pointer (some ⟨M.g, 0, none⟩), .slice a80 2 c80, .int .u32 0, .int .u8 3] w80 _ from load_g M.g M1 HG.out 8 HN.out kB HB.out a80 2 c80 twoL 0 3 w80 M80.out R80.out (by omega) (by omega) (by omega) 0 2 (by decide) (by decide)).mono ?_
  rintro e w9 ⟨rfl, hb⟩
  have B9 : Hid (Below w.heap.size w w9) := B80.out.trans (hb.mono B80.out.size)
  have M9 : Hid (MemAt w9 57 M1) := M80.out.below hb
  clear hb
  go_wp2_with fail
  refine (show Calls Try.prog 15 #[.pointer (some ⟨M.g, 0, none⟩), .int .u32 7, .int .u32 2] w9 _ from get_g M.g M1 HG.out 8 HN.out kB HB.out 7 2 w9 M9.out (by omega) (by omega) 5 0 (by decide) (by decide)).mono ?_
  rintro e w10 ⟨v10, rfl, ⟨b, ⟨a10, c10, rfl, -, -, -⟩, -⟩, hb⟩
  have B10 : Hid (Below w.heap.size w w10) := B9.out.trans (hb.mono B9.out.size)
  have M10 : Hid (MemAt w10 57 M1) := M9.out.below hb
  clear hb
  go_wp2_with fail
  refine (show Calls Try.prog 15 #[.pointer (some ⟨M.g, 0, none⟩), .int .u32 9, .int .u32 0] w10 _ from get_g M.g M1 HG.out 8 HN.out kB HB.out 9 0 w10 M10.out (by omega) (by omega) 0 0 (by decide) (by decide)).mono ?_
  rintro e w11 ⟨v11, rfl, ⟨b, ⟨a11, c11, rfl, -, -, -⟩, -⟩, hb⟩
  have B11 : Hid (Below w.heap.size w w11) := B10.out.trans (hb.mono B10.out.size)
  have M11 : Hid (MemAt w11 57 M1) := M10.out.below hb
  clear hb
  go_wp2_with fail
  refine (two_any w11).mono ?_
  rintro e w12 ⟨⟨a12, c12, rfl, hr⟩, hb⟩
  have R12 := Lib.hid hr
  have B12 : Hid (Below w.heap.size w w12) := B11.out.trans (hb.mono B11.out.size)
  clear hr hb HG HN HBB HB M2 M3 M4 M5 M6 M7 M8 M9 M10 M11 M30 M40 M50 M60 M70 M80
  go_wp2_with fail
  refine (load_nil a12 2 c12 0 1 w12 (by omega) (by omega)).mono ?_
  rintro e w' ⟨rfl, rfl⟩
  go_wp2_with fail
  refine (get_nil 0 0 w12 (by omega) (by omega)).mono ?_
  rintro e w13 ⟨v13, rfl, hb⟩
  have B13 : Hid (Below w.heap.size w w13) := B12.out.trans (hb.mono B12.out.size)
  clear hb
  go_wp2_with fail
  refine (two_any w13).mono ?_
  rintro e w14 ⟨⟨a14, c14, rfl, hr⟩, hb⟩
  have R14 := Lib.hid hr
  have B14 : Hid (Below w.heap.size w w14) := B13.out.trans (hb.mono B13.out.size)
  clear hr hb
  go_wp2_with fail
  refine (fetch_nil a14 2 c14 0 w14 (by omega)).mono ?_
  rintro e w15 ⟨v15, rfl, hb⟩
  have B15 : Hid (Below w.heap.size w w15) := B14.out.trans (hb.mono B14.out.size)
  clear hb
  go_wp2_with fail
  refine (two_any w15).mono ?_
  rintro e w16 ⟨⟨a16, c16, rfl, hr⟩, hb⟩
  have R16 := Lib.hid hr
  have B16 : Hid (Below w.heap.size w w16) := B15.out.trans (hb.mono B15.out.size)
  clear hr hb
  go_wp2_with fail
  refine (store_nil a16 2 c16 0 1 0 w16 (by omega) (by omega)).mono ?_
  rintro e w' ⟨rfl, rfl⟩
  go_wp2_with fail
  refine (put_nil 0 w16 (by omega)).mono ?_
  rintro e w' ⟨rfl, rfl⟩
  go_wp2_with fail
  refine (zero_nil 0 0 w16 (by omega) (by omega)).mono ?_
  rintro e w' ⟨rfl, rfl⟩
  go_wp2_with fail
  refine (size_nil w16).mono ?_
  rintro e w' ⟨rfl, rfl⟩
  go_wp2_with fail
  refine (copy_nil w16).mono ?_
  rintro e w' ⟨rfl, rfl⟩
  go_wp2_with fail
  go_ret
  exact ⟨rfl, B16.out⟩
end Go.Proofs.Ytfochgpjpngnlaa
