/- known. -/
import Derived.Test.YteekneicahfkpaaRigA
import Derived.Test.YteekneicahfkpaaRigG
namespace Go.Proofs.Yteekneicahfkpaa
open Go.RowKit
set_option linter.unusedVariables false
set_option linter.unusedSimpArgs false
theorem regs_new1 (W : World) (r : Reg) (h : r.ok) : RegsAt (W.alloc (.cells #[.int .u32 (r.base : Int), .int .u32 (r.size : Int), .int .u8 (r.rt : Int)] 24)) (some ⟨W.heap.size, 0, none⟩) 1 (fun _ => r) := by
  refine ⟨.inr ⟨W.heap.size, 0, rfl, by simp, fun i hi j hj => ?_⟩, fun i => h⟩
  refine cell_row (heap_alloc_new _ _) ?_
  match i, hi, j, hj with
  | 0, _, 0, _ => rfl
  | 0, _, 1, _ => rfl
  | 0, _, 2, _ => rfl
def twoR (x y : Reg) (i : Nat) : Reg := if i = 0 then x else y
theorem regs_new2 (W : World) (x y : Reg) (hx : x.ok) (hy : y.ok) : RegsAt (W.alloc (.cells #[.int .u32 (x.base : Int), .int .u32 (x.size : Int), .int .u8 (x.rt : Int), .int .u32 (y.base : Int), .int .u32 (y.size : Int), .int .u8 (y.rt : Int)] 24)) (some ⟨W.heap.size, 0, none⟩) 2 (twoR x y) := by
  refine ⟨.inr ⟨W.heap.size, 0, rfl, by simp, fun i hi j hj => ?_⟩, fun i => by unfold twoR; split; exact hx; exact hy⟩
  refine cell_row (heap_alloc_new _ _) ?_
  match i, hi, j, hj with
  | 0, _, 0, _ => rfl
  | 0, _, 1, _ => rfl
  | 0, _, 2, _ => rfl
  | 1, _, 0, _ => rfl
  | 1, _, 1, _ => rfl
  | 1, _, 2, _ => rfl
theorem ok_of (b s t : Nat) (h1 : b < 4294967296) (h2 : s < 4294967296) (h3 : t < 256) : (⟨b, s, t⟩ : Reg).ok := ⟨h1, h2, h3⟩
theorem find_g (a : Option Addr) (n c : Nat) (L : Nat → Reg) (at_ size right : Nat) (w : World) (hL : RegsAt w a n L) (hn : n ≤ 9223372036854775807) (h1 : at_ < 4294967296) (h2 : size < 4294967296) (h3 : right < 256) (o : Option Nat) (ho : found L n at_ size right = o) (V : Value) (hV : findV o = V) :
    Calls Try.prog 19 #[.slice a n c, .int .u32 (at_ : Int), .int .u32 (size : Int), .int .u8 (right : Int)] w fun e w' => e = .returned V ∧ Below w.heap.size w w' := by
  subst hV; subst ho; exact find_any a n c L at_ size right w hL hn h1 h2 h3
theorem fits_g (b s t m : Nat) (w : World) (h1 : b < 4294967296) (h2 : s < 4294967296) (h3 : t < 256) (hm : m < 4294967296) (x : Bool) (hx : (⟨b, s, t⟩ : Reg).fits m = x) : Calls Try.prog 9 #[.agg #[.int .u32 (b : Int), .int .u32 (s : Int), .int .u8 (t : Int)], .int .u32 (m : Int)] w fun e w' => e = .returned (.bool x) ∧ Below w.heap.size w w' := by
  subst hx; exact fits_any ⟨b, s, t⟩ m w ⟨h1, h2, h3⟩ hm
theorem apart_g (a : Option Addr) (n c : Nat) (L : Nat → Reg) (b : Option Addr) (m d : Nat) (K : Nat → Reg) (w : World) (hL : RegsAt w a n L) (hK : RegsAt w b m K) (hn : n ≤ 9223372036854775807) (hm : m ≤ 9223372036854775807) (x : Bool) (hx : apartB L n K m = x) :
    Calls Try.prog 20 #[.slice a n c, .slice b m d] w fun e w' => e = .returned (.bool x) ∧ Below w.heap.size w w' := by
  subst hx; exact apart_any a n c L b m d K w hL hK hn hm
/-- A row of numbers that can be read. -/
theorem own_cell {w : World} {base e n : Nat} {v : Value} {xs : List Value} (hn : 0 < n) (h : w.ownsRow base e 1 v n xs) : ∃ g c, v = .slice (some ⟨g, 0, none⟩) n c ∧ n ≤ c ∧ c ≤ maxLen ∧ base ≤ g ∧ g < w.heap.size ∧ ∀ j, j < n → w.cell? ⟨g, j, none⟩ = xs[j]? := by
  rcases h.2 with ⟨_, h0⟩ | ⟨g, cap, cur, hv, hg, hb, h1, h2, h3, h4⟩
  · omega
  · refine ⟨g, cap, hv, h1, h2, hg, heap_lt hb, fun j hj => ?_⟩
    have : xs[j]? = cur[j]? := by rw [← h4, List.getElem?_take_of_lt (by omega), Array.getElem?_toList]
    rw [this]
    have hjs : j < cur.size := by omega
    rw [Array.getElem?_eq_getElem hjs]
    exact cell_row hb (Array.getElem?_eq_getElem hjs)
theorem told_k (a : Option Addr) (c : Nat) (w : World) (hL : RegsAt w a 1 (fun _ => ⟨4, 4, 1⟩)) :
    Calls Try.prog 13 #[.slice a 1 c, .int .u32 10] w fun e w' => (∃ g1 c1 g2 c2, e = .returned (.tuple #[.slice (some ⟨g1, 0, none⟩) 2 c1, .slice (some ⟨g2, 0, none⟩) 2 c2]) ∧ g1 < w'.heap.size ∧ g2 < w'.heap.size ∧
      w'.cell? ⟨g1, 0, none⟩ = some (.int .u32 0) ∧ w'.cell? ⟨g1, 1, none⟩ = some (.int .u32 8) ∧ w'.cell? ⟨g2, 0, none⟩ = some (.int .u32 4) ∧ w'.cell? ⟨g2, 1, none⟩ = some (.int .u32 2)) ∧ Below w.heap.size w w' := by
  have hf : frees (fun _ => (⟨4, 4, 1⟩ : Reg)) 1 10 = [(0, 4), (8, 2)] := by decide
  have := told_any a 1 c (fun _ => ⟨4, 4, 1⟩) 10 w (by omega) (by omega) hL
  rw [hf] at this
  refine this.mono ?_
  rintro e w' ⟨⟨v1, v2, rfl, h1, h2⟩, hb⟩
  obtain ⟨g1, c1, rfl, _, _, _, l1, k1⟩ := own_cell (by decide) h1
  obtain ⟨g2, c2, rfl, _, _, _, l2, k2⟩ := own_cell (by decide) h2
  exact ⟨⟨g1, c1, g2, c2, rfl, l1, l2, k1 0 (by decide), k1 1 (by decide), k2 0 (by decide), k2 1 (by decide)⟩, hb⟩
set_option maxHeartbeats 8000000 in
set_option maxRecDepth 100000 in
theorem known_any (w : World) : Calls Try.prog 8 #[] w fun e w' => e = .returned (.bool true) ∧ Below w.heap.size w w' := by
  obtain ⟨w0, hw0⟩ : ∃ w0, w0 = w := ⟨_, rfl⟩
  rw [show Calls Try.prog 8 #[] w = Calls Try.prog 8 #[] w0 by rw [hw0]]
  have B0 : Hid (Below w.heap.size w w0) := by rw [hw0]; exact Below.refl _ _
  clear hw0
  go_enter Try.func8, Try.ntmps8
  go_wp2_with fail
  (with_reducible refine (show Calls Try.prog 17 #[.int .u32 0, .int .u32 8, .int .u8 1] w0 _ from of_any 0 8 1 w0).mono ?_)
  rintro e w1 ⟨rfl, hb⟩
  have H1 : Hid (∀ a n L, RegsAt w0 a n L → RegsAt w1 a n L) := fun _ _ _ h => h.below hb
  have B1 := Lib.hid (B0.out.trans (hb.mono B0.out.size))
  clear hb
  go_wp2_with fail
  (with_reducible refine (show Calls Try.prog 17 #[.int .u32 8, .int .u32 8, .int .u8 3] w1 _ from of_any 8 8 3 w1).mono ?_)
  rintro e w2 ⟨rfl, hb⟩
  have H2 : Hid (∀ a n L, RegsAt w1 a n L → RegsAt w2 a n L) := fun _ _ _ h => h.below hb
  have B2 := Lib.hid (B1.out.trans (hb.mono B1.out.size))
  clear hb
  go_wp2_with fail
  obtain ⟨w3, hw⟩ : ∃ x, x = w2.alloc (.cells #[.int .u32 0, .int .u32 8, .int .u8 1, .int .u32 8, .int .u32 8, .int .u8 3] 24) := ⟨_, rfl⟩
  rw [← hw]
  have B3 : Hid (Below w.heap.size w w3) := by rw [hw]; exact B2.out.alloc B2.out.size _
  have R3 : Hid (RegsAt w3 (some ⟨w2.heap.size, 0, none⟩) 2 (twoR ⟨0, 8, 1⟩ ⟨8, 8, 3⟩)) := by rw [hw]; exact regs_new2 w2 ⟨0, 8, 1⟩ ⟨8, 8, 3⟩ (ok_of _ _ _ (by omega) (by omega) (by omega)) (ok_of _ _ _ (by omega) (by omega) (by omega))
  clear hw
  generalize w2.heap.size = g3 at *
  (with_reducible refine (show Calls Try.prog 19 #[.slice (some ⟨g3, 0, none⟩) 2 2, .int .u32 6, .int .u32 4, .int .u8 1] w3 _ from find_g _ 2 2 _ 6 4 1 w3 R3.out (by omega) (by omega) (by omega) (by omega) (none) (by decide) (.tuple #[.int .i64 0, .bool false]) rfl).mono ?_)
  rintro e w4 ⟨rfl, hb⟩
  have B4 := Lib.hid (B3.out.trans (hb.mono B3.out.size))
  have R4 := Lib.hid (R3.out.below hb)
  clear hb
  go_wp2_with fail
  (with_reducible refine (show Calls Try.prog 19 #[.slice (some ⟨g3, 0, none⟩) 2 2, .int .u32 8, .int .u32 8, .int .u8 2] w4 _ from find_g _ 2 2 _ 8 8 2 w4 R4.out (by omega) (by omega) (by omega) (by omega) (some 1) (by decide) (.tuple #[.int .i64 1, .bool true]) rfl).mono ?_)
  rintro e w5 ⟨rfl, hb⟩
  have B5 := Lib.hid (B4.out.trans (hb.mono B4.out.size))
  have R5 := Lib.hid (R4.out.below hb)
  clear hb
  go_wp2_with fail
  (with_reducible refine (show Calls Try.prog 17 #[.int .u32 0, .int .u32 16, .int .u8 1] w5 _ from of_any 0 16 1 w5).mono ?_)
  rintro e w6 ⟨rfl, hb⟩
  have H6 : Hid (∀ a n L, RegsAt w5 a n L → RegsAt w6 a n L) := fun _ _ _ h => h.below hb
  have B6 := Lib.hid (B5.out.trans (hb.mono B5.out.size))
  clear hb
  go_wp2_with fail
  (with_reducible refine (show Calls Try.prog 9 #[.agg #[.int .u32 0, .int .u32 16, .int .u8 1], .int .u32 16] w6 _ from fits_g 0 16 1 16 w6 (by omega) (by omega) (by omega) (by omega) true (by decide)).mono ?_)
  rintro e w7 ⟨rfl, hb⟩
  have B7 := Lib.hid (B6.out.trans (hb.mono B6.out.size))
  clear hb
  go_wp2_with fail
  (with_reducible refine (show Calls Try.prog 17 #[.int .u32 4, .int .u32 4, .int .u8 1] w7 _ from of_any 4 4 1 w7).mono ?_)
  rintro e w8 ⟨rfl, hb⟩
  have H8 : Hid (∀ a n L, RegsAt w7 a n L → RegsAt w8 a n L) := fun _ _ _ h => h.below hb
  have B8 := Lib.hid (B7.out.trans (hb.mono B7.out.size))
  clear hb
  go_wp2_with fail
  obtain ⟨w9, hw⟩ : ∃ x, x = w8.alloc (.cells #[.int .u32 4, .int .u32 4, .int .u8 1] 24) := ⟨_, rfl⟩
  rw [← hw]
  have B9 : Hid (Below w.heap.size w w9) := by rw [hw]; exact B8.out.alloc B8.out.size _
  have H9 : Hid (∀ a n L, RegsAt w8 a n L → RegsAt w9 a n L) := fun _ _ _ h => h.below (by rw [hw]; exact alloc_below _ _)
  have R9 : Hid (RegsAt w9 (some ⟨w8.heap.size, 0, none⟩) 1 (fun _ => ⟨4, 4, 1⟩)) := by rw [hw]; exact regs_new1 w8 ⟨4, 4, 1⟩ (ok_of _ _ _ (by omega) (by omega) (by omega))
  clear hw
  generalize w8.heap.size = g9 at *
  (with_reducible refine (told_k _ 1 w9 R9.out).mono ?_)
  rintro e w10 ⟨⟨g1, c1, g2, c2, rfl, l1, l2, k1, k2, k3, k4⟩, hb⟩
  have B10 := Lib.hid (B9.out.trans (hb.mono B9.out.size))
  have L1 := Lib.hid l1; have L2 := Lib.hid l2
  have K1 := Lib.hid k1; have K2 := Lib.hid k2; have K3 := Lib.hid k3; have K4 := Lib.hid k4
  have T10 : Hid (Below w10.heap.size w10 w10) := Below.refl _ _
  clear hb l1 l2 k1 k2 k3 k4
  go_wp2_with fail
  (with_reducible refine (show Calls Try.prog 17 #[.int .u32 0, .int .u32 16, .int .u8 1] w10 _ from of_any 0 16 1 w10).mono ?_)
  rintro e w11 ⟨rfl, hb⟩
  have H11 : Hid (∀ a n L, RegsAt w10 a n L → RegsAt w11 a n L) := fun _ _ _ h => h.below hb
  have T11 := Lib.hid (T10.out.trans (hb.mono T10.out.size))
  clear hb
  go_wp2_with fail
  (with_reducible refine (show Calls Try.prog 9 #[.agg #[.int .u32 0, .int .u32 16, .int .u8 1], .int .u32 16] w11 _ from fits_g 0 16 1 16 w11 (by omega) (by omega) (by omega) (by omega) true (by decide)).mono ?_)
  rintro e w12 ⟨rfl, hb⟩
  have T12 := Lib.hid (T11.out.trans (hb.mono T11.out.size))
  clear hb
  go_wp2_with fail
  (with_reducible refine (show Calls Try.prog 17 #[.int .u32 1, .int .u32 16, .int .u8 1] w12 _ from of_any 1 16 1 w12).mono ?_)
  rintro e w13 ⟨rfl, hb⟩
  have H13 : Hid (∀ a n L, RegsAt w12 a n L → RegsAt w13 a n L) := fun _ _ _ h => h.below hb
  have T13 := Lib.hid (T12.out.trans (hb.mono T12.out.size))
  clear hb
  go_wp2_with fail
  (with_reducible refine (show Calls Try.prog 9 #[.agg #[.int .u32 1, .int .u32 16, .int .u8 1], .int .u32 16] w13 _ from fits_g 1 16 1 16 w13 (by omega) (by omega) (by omega) (by omega) false (by decide)).mono ?_)
  rintro e w14 ⟨rfl, hb⟩
  have T14 := Lib.hid (T13.out.trans (hb.mono T13.out.size))
  clear hb
  go_wp2_with fail
  (with_reducible refine (show Calls Try.prog 17 #[.int .u32 4294967295, .int .u32 2, .int .u8 1] w14 _ from of_any 4294967295 2 1 w14).mono ?_)
  rintro e w15 ⟨rfl, hb⟩
  have H15 : Hid (∀ a n L, RegsAt w14 a n L → RegsAt w15 a n L) := fun _ _ _ h => h.below hb
  have T15 := Lib.hid (T14.out.trans (hb.mono T14.out.size))
  clear hb
  go_wp2_with fail
  (with_reducible refine (show Calls Try.prog 9 #[.agg #[.int .u32 4294967295, .int .u32 2, .int .u8 1], .int .u32 100] w15 _ from fits_g 4294967295 2 1 100 w15 (by omega) (by omega) (by omega) (by omega) false (by decide)).mono ?_)
  rintro e w16 ⟨rfl, hb⟩
  have T16 := Lib.hid (T15.out.trans (hb.mono T15.out.size))
  clear hb
  go_wp2_with fail
  (with_reducible refine (show Calls Try.prog 17 #[.int .u32 0, .int .u32 8, .int .u8 1] w16 _ from of_any 0 8 1 w16).mono ?_)
  rintro e w17 ⟨rfl, hb⟩
  have H17 : Hid (∀ a n L, RegsAt w16 a n L → RegsAt w17 a n L) := fun _ _ _ h => h.below hb
  have T17 := Lib.hid (T16.out.trans (hb.mono T16.out.size))
  clear hb
  go_wp2_with fail
  obtain ⟨w18, hw⟩ : ∃ x, x = w17.alloc (.cells #[.int .u32 0, .int .u32 8, .int .u8 1] 24) := ⟨_, rfl⟩
  rw [← hw]
  have T18 : Hid (Below w10.heap.size w10 w18) := by rw [hw]; exact T17.out.alloc T17.out.size _
  have H18 : Hid (∀ a n L, RegsAt w17 a n L → RegsAt w18 a n L) := fun _ _ _ h => h.below (by rw [hw]; exact alloc_below _ _)
  have R18 : Hid (RegsAt w18 (some ⟨w17.heap.size, 0, none⟩) 1 (fun _ => ⟨0, 8, 1⟩)) := by rw [hw]; exact regs_new1 w17 ⟨0, 8, 1⟩ (ok_of _ _ _ (by omega) (by omega) (by omega))
  clear hw
  generalize w17.heap.size = g18 at *
  go_wp2_with fail
  (with_reducible refine (show Calls Try.prog 17 #[.int .u32 4, .int .u32 8, .int .u8 1] w18 _ from of_any 4 8 1 w18).mono ?_)
  rintro e w19 ⟨rfl, hb⟩
  have H19 : Hid (∀ a n L, RegsAt w18 a n L → RegsAt w19 a n L) := fun _ _ _ h => h.below hb
  have T19 := Lib.hid (T18.out.trans (hb.mono T18.out.size))
  clear hb
  go_wp2_with fail
  obtain ⟨w20, hw⟩ : ∃ x, x = w19.alloc (.cells #[.int .u32 4, .int .u32 8, .int .u8 1] 24) := ⟨_, rfl⟩
  rw [← hw]
  have T20 : Hid (Below w10.heap.size w10 w20) := by rw [hw]; exact T19.out.alloc T19.out.size _
  have H20 : Hid (∀ a n L, RegsAt w19 a n L → RegsAt w20 a n L) := fun _ _ _ h => h.below (by rw [hw]; exact alloc_below _ _)
  have R20 : Hid (RegsAt w20 (some ⟨w19.heap.size, 0, none⟩) 1 (fun _ => ⟨4, 8, 1⟩)) := by rw [hw]; exact regs_new1 w19 ⟨4, 8, 1⟩ (ok_of _ _ _ (by omega) (by omega) (by omega))
  clear hw
  generalize w19.heap.size = g20 at *
  have RA21 : Hid (RegsAt w20 (some ⟨g18, 0, none⟩) 1 (fun _ => ⟨0, 8, 1⟩)) := H20.out _ _ _ (H19.out _ _ _ R18.out)
  (with_reducible refine (apart_g _ 1 1 _ _ 1 1 _ w20 RA21.out R20.out (by omega) (by omega) (true) (by decide)).mono ?_)
  rintro e w21 ⟨rfl, hb⟩
  have T21 := Lib.hid (T20.out.trans (hb.mono T20.out.size))
  clear hb
  go_wp2_with fail
  (with_reducible refine (show Calls Try.prog 17 #[.int .u32 0, .int .u32 8, .int .u8 3] w21 _ from of_any 0 8 3 w21).mono ?_)
  rintro e w22 ⟨rfl, hb⟩
  have H22 : Hid (∀ a n L, RegsAt w21 a n L → RegsAt w22 a n L) := fun _ _ _ h => h.below hb
  have T22 := Lib.hid (T21.out.trans (hb.mono T21.out.size))
  clear hb
  go_wp2_with fail
  obtain ⟨w23, hw⟩ : ∃ x, x = w22.alloc (.cells #[.int .u32 0, .int .u32 8, .int .u8 3] 24) := ⟨_, rfl⟩
  rw [← hw]
  have T23 : Hid (Below w10.heap.size w10 w23) := by rw [hw]; exact T22.out.alloc T22.out.size _
  have H23 : Hid (∀ a n L, RegsAt w22 a n L → RegsAt w23 a n L) := fun _ _ _ h => h.below (by rw [hw]; exact alloc_below _ _)
  have R23 : Hid (RegsAt w23 (some ⟨w22.heap.size, 0, none⟩) 1 (fun _ => ⟨0, 8, 3⟩)) := by rw [hw]; exact regs_new1 w22 ⟨0, 8, 3⟩ (ok_of _ _ _ (by omega) (by omega) (by omega))
  clear hw
  generalize w22.heap.size = g23 at *
  go_wp2_with fail
  (with_reducible refine (show Calls Try.prog 17 #[.int .u32 4, .int .u32 8, .int .u8 1] w23 _ from of_any 4 8 1 w23).mono ?_)
  rintro e w24 ⟨rfl, hb⟩
  have H24 : Hid (∀ a n L, RegsAt w23 a n L → RegsAt w24 a n L) := fun _ _ _ h => h.below hb
  have T24 := Lib.hid (T23.out.trans (hb.mono T23.out.size))
  clear hb
  go_wp2_with fail
  obtain ⟨w25, hw⟩ : ∃ x, x = w24.alloc (.cells #[.int .u32 4, .int .u32 8, .int .u8 1] 24) := ⟨_, rfl⟩
  rw [← hw]
  have T25 : Hid (Below w10.heap.size w10 w25) := by rw [hw]; exact T24.out.alloc T24.out.size _
  have H25 : Hid (∀ a n L, RegsAt w24 a n L → RegsAt w25 a n L) := fun _ _ _ h => h.below (by rw [hw]; exact alloc_below _ _)
  have R25 : Hid (RegsAt w25 (some ⟨w24.heap.size, 0, none⟩) 1 (fun _ => ⟨4, 8, 1⟩)) := by rw [hw]; exact regs_new1 w24 ⟨4, 8, 1⟩ (ok_of _ _ _ (by omega) (by omega) (by omega))
  clear hw
  generalize w24.heap.size = g25 at *
  go_wp2_with fail
  have C1 : w25.cell? ⟨g1, 0, none⟩ = some (.int .u32 0) := (T25.out.cell L1.out).trans K1.out
  have C2 : w25.cell? ⟨g1, 1, none⟩ = some (.int .u32 8) := (T25.out.cell L1.out).trans K2.out
  have C3 : w25.cell? ⟨g2, 0, none⟩ = some (.int .u32 4) := (T25.out.cell L2.out).trans K3.out
  have C4 : w25.cell? ⟨g2, 1, none⟩ = some (.int .u32 2) := (T25.out.cell L2.out).trans K4.out
  have RA : Hid (RegsAt w25 (some ⟨g23, 0, none⟩) 1 (fun _ => ⟨0, 8, 3⟩)) := H25.out _ _ _ (H24.out _ _ _ R23.out)
  (with_reducible refine (apart_g _ 1 1 _ _ 1 1 _ w25 RA.out R25.out (by omega) (by omega) false (by decide)).mono ?_)
  rintro e w26 ⟨rfl, hb⟩
  have T26 := Lib.hid (T25.out.trans (hb.mono T25.out.size))
  have BF : Hid (Below w.heap.size w w26) := B10.out.trans (T26.out.mono B10.out.size)
  clear hb C1 C2 C3 C4
  have C1 : w26.cell? ⟨g1, 0, none⟩ = some (.int .u32 0) := (T26.out.cell L1.out).trans K1.out
  have C2 : w26.cell? ⟨g1, 1, none⟩ = some (.int .u32 8) := (T26.out.cell L1.out).trans K2.out
  have C3 : w26.cell? ⟨g2, 0, none⟩ = some (.int .u32 4) := (T26.out.cell L2.out).trans K3.out
  have C4 : w26.cell? ⟨g2, 1, none⟩ = some (.int .u32 2) := (T26.out.cell L2.out).trans K4.out
  go_wp2_with fail
  go_ret
  exact ⟨rfl, BF.out⟩
end Go.Proofs.Yteekneicahfkpaa
