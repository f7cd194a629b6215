/- ArsKnown: the document's examples; what may not be. -/
import Derived.Test.YtdlpgoackmgdkaaGreatDoorArPa
namespace Go.Proofs.YtdlpgoackmgdkaaGreatDoor
open Go.RowKit Go.Shelf
set_option linter.unusedVariables false
set_option linter.unusedSimpArgs false
set_option maxRecDepth 100000 in
theorem build_bad (ls : List PL) (a : Option Addr) (c base : Nat) (port : Int) (w : World) (hA : PlsAt w a ls) (hok : ∀ i, i < ls.length → (ls.getD i pl0).ok) (hm : ls.length ≤ 9223372036854775807) (hb0 : base < 4294967296) (hmay : mayB base port ls = false) :
    Calls Tryz.prog 32 #[.agg #[.int .u32 (base : Int), .int .i64 port, .slice a ls.length c]] w fun e w' => e = .returned (.tuple #[.slice none 0 0, .int .i64 2]) ∧ Below w.heap.size w w' := by
  obtain ⟨w1, hw1⟩ : ∃ x, x = w.alloc (.cells #[.int .u32 (base : Int), .int .i64 port, .slice a ls.length c] 25) := ⟨_, rfl⟩
  have B1 : Hid (Below w.heap.size w w1) := by rw [hw1]; exact alloc_below _ _
  have K1 : Hid (w1.heap[w.heap.size]? = some (.cells #[.int .u32 (base : Int), .int .i64 port, .slice a ls.length c] 25 (0, 0))) := by rw [hw1]; exact heap_alloc_new _ _
  have HM := Lib.hid (amay_any ls a c base port w1 (hA.below B1.out) hok hm hb0)
  rw [hmay] at HM
  have HW1 := Lib.hid hw1
  generalize ls.length = n at *
  clear hA hok hmay hw1
  have q0 := cell_row (j := 0) K1.out rfl
  have q1 := cell_row (j := 1) K1.out rfl
  have q2 := cell_row (j := 2) K1.out rfl
  go_enter Tryz.func32, Tryz.ntmps32
  go_upto_region 1 with fail
  rw [← HW1.out]
  clear HW1
  go_wp2_with fail
  refine HM.out.mono ?_
  rintro e w2 ⟨rfl, hb⟩
  have B2 : Hid (Below w.heap.size w w2) := B1.out.trans (hb.mono B1.out.size)
  clear HM hb
  go_wp2_with fail
  go_ret2
  exact ⟨rfl, B2.out⟩
def knS : ByteArray := ⟨#[97, 116, 32, 53, 32, 114, 111, 117, 116, 101, 32, 55, 10]⟩
def knT : ByteArray := ⟨#[97, 116, 32, 53, 32, 114, 111, 117, 116, 101, 32, 55, 10, 97, 116, 32, 48, 53, 32, 114, 111, 117, 116, 101, 32, 55, 10]⟩
theorem kn_good : ∀ x ∈ [(⟨5, 7⟩ : PL)], x.good := fun x hx => by
  rw [List.mem_singleton.1 hx]; exact ⟨by decide, by decide, by decide⟩
theorem kn_line : printT [(⟨5, 7⟩ : PL)] = knS.data.toList := by simp [printT, lineT, Lib.itoa, Lib.decDigits, knS]
theorem kn_par : ParR knS.data.toList [(⟨5, 7⟩ : PL)] [] := by rw [← kn_line]; exact par_print kn_good
theorem kn_no : noLn [97, 116, 32, 48, 53, 32, 114, 111, 117, 116, 101, 32, 55, 10] :=
  no_part (l := [97, 116, 32, 48, 53, 32, 114, 111, 117, 116, 101, 32, 55]) (r := []) (by decide) (fun x hx e => by
    have h : partL 32 [97, 116, 32, 48, 53, 32, 114, 111, 117, 116, 101, 32, 55] = [atB, [48, 53], roB, [55]] := by decide
    rw [h] at e
    injection e with _ e; injection e with e _
    have h1 := congrArg valD e
    rw [valD_dec] at h1
    have h2 : valD [48, 53] = 5 := by decide
    rw [h2] at h1
    rw [← h1, Lib.decDigits_one (by decide)] at e
    cases e)
theorem kn_par2 : ParR knT.data.toList [(⟨5, 7⟩ : PL)] [97, 116, 32, 48, 53, 32, 114, 111, 117, 116, 101, 32, 55, 10] := ⟨by rw [kn_line]; rfl, kn_good, .inr kn_no⟩
theorem kn_p1 (w : World) (hL : LibW w) : Calls Tryz.prog 34 #[.string knS, .int .u32 4, .int .i64 3] w fun e w' => (∃ a c, e = .returned (.tuple #[.agg #[.int .u32 4, .int .i64 3, .slice a 1 c], .int .i64 0, .int .i64 0]) ∧ PlsAt w' a [⟨5, 7⟩]) ∧ Below w.heap.size w w' := by
  refine (aparse_any 4 3 knS w (by decide) hL).mono ?_
  rintro e w' ⟨h, hb⟩
  unfold ArsP at h
  rw [if_neg (by decide)] at h
  obtain ⟨L, r, hp, _, h⟩ := h
  obtain ⟨rfl, rfl⟩ := hp.uniq kn_par
  rcases h with ⟨_, h⟩ | ⟨h, _⟩
  · exact ⟨h, hb⟩
  · exact absurd rfl h
theorem kn_p2 (w : World) (hL : LibW w) : Calls Tryz.prog 34 #[.string knT, .int .u32 4, .int .i64 3] w fun e w' => e = .returned (.tuple #[.agg #[.int .u32 0, .int .i64 0, .slice none 0 0], .int .i64 2, .int .i64 262]) ∧ Below w.heap.size w w' := by
  refine (aparse_any 4 3 knT w (by decide) hL).mono ?_
  rintro e w' ⟨h, hb⟩
  unfold ArsP at h
  rw [if_neg (by decide)] at h
  obtain ⟨L, r, hp, _, h⟩ := h
  obtain ⟨rfl, rfl⟩ := hp.uniq kn_par2
  rcases h with ⟨h, _⟩ | ⟨_, h⟩
  · cases h
  · exact ⟨h, hb⟩
set_option maxRecDepth 100000 in
set_option maxHeartbeats 4000000 in
theorem known_walk (w : World) (hL : LibW w) : Calls Tryz.prog 8 #[] w fun e w' => e = .returned (.bool true) ∧ Below w.heap.size w w' := by
  have HL := Lib.hid hL
  have HB := Lib.hid (build_bad [] none 0 0 (-1) w (.inl rfl) (fun i hi => absurd hi (by simp)) (by decide) (by decide) (by decide))
  clear hL
  go_enter Tryz.func8, Tryz.ntmps8
  go_wp2_with fail
  refine HB.out.mono ?_
  rintro e w1 ⟨rfl, hb⟩
  have B1 := Lib.hid hb
  have HP := Lib.hid (plan_any w1)
  clear hb HB
  go_wp2_with fail
  refine HP.out.mono ?_
  rintro e w2 ⟨⟨a, rfl, hp⟩, hb⟩
  have B2 : Hid (Below w.heap.size w w2) := B1.out.trans (hb.mono B1.out.size)
  have HD := Lib.hid (due_any planL a 3 8 1 4 w2 (by decide) hp)
  rw [show dueL planL 1 = (0, false) by decide] at HD
  clear hb HP hp B1
  go_wp2_with fail
  refine HD.out.mono ?_
  rintro e w3 ⟨rfl, hb⟩
  have B3 : Hid (Below w.heap.size w w3) := B2.out.trans (hb.mono B2.out.size)
  have HP1 := Lib.hid (kn_p1 w3 (HL.out.below B3.out))
  clear hb HD B2
  go_wp2_with fail
  refine HP1.out.mono ?_
  rintro e w4 ⟨⟨a4, c4, rfl, hp4⟩, hb⟩
  have B4 : Hid (Below w.heap.size w w4) := B3.out.trans (hb.mono B3.out.size)
  obtain ⟨w5, hw5⟩ : ∃ x, x = w4.alloc (.cells #[.int .u32 4, .int .i64 3, .slice a4 1 c4] 25) := ⟨_, rfl⟩
  have b5 : Below w4.heap.size w4 w5 := by rw [hw5]; exact alloc_below _ _
  have B5 : Hid (Below w.heap.size w w5) := B4.out.trans (b5.mono B4.out.size)
  have K5 : Hid (w5.heap[w4.heap.size]? = some (.cells #[.int .u32 4, .int .i64 3, .slice a4 1 c4] 25 (0, 0))) := by rw [hw5]; exact heap_alloc_new _ _
  have P5 : Hid (PlsAt w5 a4 [⟨5, 7⟩]) := hp4.below b5
  have HP2 := Lib.hid (kn_p2 w5 (HL.out.below B5.out))
  have HW5 := Lib.hid hw5
  clear hb HP1 B3 hw5 b5 hp4
  go_upto_region 4 with fail
  rw [← HW5.out]
  clear HW5
  generalize w4.heap.size = g4 at *
  go_wp2_with fail
  refine HP2.out.mono ?_
  rintro e w6 ⟨rfl, hb⟩
  have B6 : Hid (Below w.heap.size w w6) := B5.out.trans (hb.mono B5.out.size)
  have K6 := Lib.hid (kept K5.out hb)
  have P6 : Hid (PlsAt w6 a4 [⟨5, 7⟩]) := P5.out.below hb
  obtain ⟨w7, hw7⟩ : ∃ x, x = w6.alloc (.cells #[.int .u32 0, .int .i64 0, .slice none 0 0] 25) := ⟨_, rfl⟩
  have b7 : Below w6.heap.size w6 w7 := by rw [hw7]; exact alloc_below _ _
  have B7 : Hid (Below w.heap.size w w7) := B6.out.trans (b7.mono B6.out.size)
  have K7 := Lib.hid (kept K6.out b7)
  have P7 : Hid (PlsAt w7 a4 [⟨5, 7⟩]) := P6.out.below b7
  have HWK := Lib.hid (works_any w7 (HL.out.below B7.out))
  have HW7 := Lib.hid hw7
  clear hb HP2 B4 K5 P5 B5 K6 P6 hw7 b7
  go_upto_region 5 with fail
  rw [← HW7.out]
  clear HW7
  go_wp2_with fail
  refine HWK.out.mono ?_
  rintro e w8 ⟨rfl, hb⟩
  have B8 : Hid (Below w.heap.size w w8) := B7.out.trans (hb.mono B7.out.size)
  have K8 := kept K7.out hb
  obtain ⟨b8, o8, rfl, hl8, hc8⟩ := (P7.out.below hb).at (by decide)
  have x0 : w8.cell? ⟨b8, o8, none⟩ = some (.int .u32 5) := hc8 0 (by decide) 0 (by decide)
  have x1 : w8.cell? ⟨b8, o8 + 1, none⟩ = some (.int .i64 7) := hc8 0 (by decide) 1 (by decide)
  have q0 := cell_row (j := 0) K8 rfl
  have q1 := cell_row (j := 1) K8 rfl
  have q2 := cell_row (j := 2) K8 rfl
  clear hb HWK B7 K7 P7 hc8 K8
  go_wp2_with fail
  go_ret
  exact ⟨rfl, B8.out⟩
end Go.Proofs.YtdlpgoackmgdkaaGreatDoor
