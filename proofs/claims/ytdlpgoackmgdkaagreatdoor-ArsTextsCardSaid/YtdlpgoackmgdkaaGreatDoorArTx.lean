/- ArsTexts: any plan's text; any text's plan, or its first line that is none. -/
import Derived.Test.YtdlpgoackmgdkaaGreatDoorArRs
import Derived.Test.YtdlpgoackmgdkaaGreatDoorArBk
namespace Go.Proofs.YtdlpgoackmgdkaaGreatDoor
open Go.RowKit Go.Shelf
set_option linter.unusedVariables false
set_option linter.unusedSimpArgs false
set_option maxRecDepth 100000 in
set_option maxHeartbeats 16000000 in
theorem texts_any (ls : List PL) (a : Option Addr) (c base : Nat) (port : Int) (s : ByteArray) (w : World) (hA : PlsAt w a ls) (hok : ∀ i, i < ls.length → (ls.getD i pl0).ok) (hm : ls.length ≤ maxLen) (hb0 : base < 4294967296) (hs : s.size ≤ maxLen) (hL : LibW w) :
    Calls Tryz.prog 9 #[.agg #[.int .u32 (base : Int), .int .i64 port, .slice a ls.length c], .string s] w fun e w' => e = .returned (.bool true) ∧ Below w.heap.size w w' := by
  have HL := Lib.hid hL
  have HA := Lib.hid hA
  have HOK := Lib.hid hok
  obtain ⟨w1, hw1⟩ : ∃ x, x = w.alloc (.cells #[.int .u32 (base : Int), .int .i64 port, .slice a ls.length c] 25) := ⟨_, rfl⟩
  have B2 : Hid (Below w.heap.size w w1) := by rw [hw1]; exact alloc_below _ _
  have K2 : Hid (w1.heap[w.heap.size]? = some (.cells #[.int .u32 (base : Int), .int .i64 port, .slice a ls.length c] 25 (0, 0))) := by rw [hw1]; exact heap_alloc_new _ _
  obtain ⟨n, hn⟩ : ∃ n, n = ls.length := ⟨_, rfl⟩
  obtain ⟨g, hg⟩ : ∃ g, g = w.heap.size := ⟨_, rfl⟩
  have HW1 := Lib.hid hw1
  rw [← hn] at HW1 K2 hm ⊢
  rw [← hg] at K2
  have HN := Lib.hid hn
  have HG := Lib.hid hg
  unfold maxLen at hm hs
  clear hL hA hok hw1 hn hg
  have q2 := cell_row (j := 2) K2.out rfl
  go_enter Tryz.func9, Tryz.ntmps9
  go_upto_region 1 with fail
  rw [← HW1.out, ← HG.out]
  clear HW1
  by_cases h6 : n ≤ 600
  case neg =>
    have t1 : decide (600 < (n : Int)) = true := decide_eq_true (by omega)
    have HWK := Lib.hid (works_any w1 (HL.out.below B2.out))
    go_wp2_with fail
    refine HWK.out.mono ?_
    rintro e w9 ⟨rfl, hb9⟩
    have B9 : Hid (Below w.heap.size w w9) := B2.out.trans (hb9.mono B2.out.size)
    clear HWK hb9
    go_wp2_with fail
    go_ret
    exact ⟨rfl, B9.out⟩
  have t1 : decide (600 < (n : Int)) = false := decide_eq_false (by omega)
  by_cases h7 : s.size ≤ 30000
  case neg =>
    have t2 : decide (30000 < (s.size : Int)) = true := decide_eq_true (by omega)
    have HWK := Lib.hid (works_any w1 (HL.out.below B2.out))
    go_wp2_with fail
    refine HWK.out.mono ?_
    rintro e w9 ⟨rfl, hb9⟩
    have B9 : Hid (Below w.heap.size w w9) := B2.out.trans (hb9.mono B2.out.size)
    clear HWK hb9
    go_wp2_with fail
    go_ret
    exact ⟨rfl, B9.out⟩
  have t2 : decide (30000 < (s.size : Int)) = false := decide_eq_false (by omega)
  have HP := Lib.hid (fun (W : World) (hW : Below w.heap.size w W) => print_any ls a c base port W (HA.out.below hW) HOK.out (by rw [← HN.out]; omega) (HL.out.below hW).tab)
  have HO := Lib.hid (fun (W : World) (hW : Below w.heap.size w W) => others_any ls a c base port W (HA.out.below hW) (by rw [← HN.out]; omega))
  have HR := Lib.hid (fun (W : World) (a5 : Option Addr) (c5 : Nat) (hp : PlsAt W a5 ls) => rprint_any ls a5 c5 W hp HOK.out (by rw [← HN.out]; omega))
  rw [← HN.out] at HP HO HR
  generalize bytesOf (printT ls) = RB at *
  go_upto_region 3 with fail
  clear q2
  have B2 : Hid (Below w.heap.size w w1.drew) := B2.out.drew
  have K2 : Hid (w1.drew.heap[g]? = some (.cells #[.int .u32 (base : Int), .int .i64 port, .slice a n c] 25 (0, 0))) := K2.out
  have te : (RB.toList == RB.toList) = true := beq_self_eq_true _
  have te2 : (RB.toList != RB.toList) = false := by rw [bne, te]; rfl
  go_region_held3 (fun W => (W.cell? ⟨g, 0, none⟩ = some (.int .u32 (base : Int)) ∧ W.cell? ⟨g, 1, none⟩ = some (.int .i64 port) ∧ W.cell? ⟨g, 2, none⟩ = some (.slice a n c)) ∧ g < W.heap.size)
    (exact ⟨⟨cell_row (j := 0) K2.out rfl, cell_row (j := 1) K2.out rfl, cell_row (j := 2) K2.out rfl⟩, heap_lt K2.out⟩) (first
    | (go_at_call 35; (with_reducible refine (HP.out _ B2.out).mono ?_); rintro e w3 ⟨rfl, hb⟩; (try have HQ := Lib.hid (PlsAt.below HQ.out hb)); have K2 := Lib.hid (kept K2.out hb); have B2 : Hid (Below w.heap.size w w3) := B2.out.trans (hb.mono B2.out.size); clear hb)
    | (go_at_call 18; (with_reducible refine (HO.out _ B2.out).mono ?_); rintro e w3 ⟨⟨v, rfl, ho⟩, hb⟩; obtain ⟨a5, c5, rfl, _, _, hq⟩ := pls_of_own (ls := ls) ho; have HQ := Lib.hid hq; (try rw [← HN.out]); have K2 := Lib.hid (kept K2.out hb); have B2 : Hid (Below w.heap.size w w3) := B2.out.trans (hb.mono B2.out.size); clear hb ho hq)
    | (go_at_call 36; (with_reducible refine (HR.out _ _ _ HQ.out).mono ?_); rintro e w3 ⟨rfl, hb⟩; have K2 := Lib.hid (kept K2.out hb); have B2 : Hid (Below w.heap.size w w3) := B2.out.trans (hb.mono B2.out.size); clear hb HQ))
  all_goals
    clear HP HO HR
    have HPA := Lib.hid (fun (W : World) (hW : Below w.heap.size w W) => aparse_any base port s W (by omega) (HL.out.below hW))
    have q0 := cell_row (j := 0) K2.out rfl
    have q1 := cell_row (j := 1) K2.out rfl
    have lg := heap_lt K2.out
    go_upto_region 5 with fail
    go_wp2_with (go_at_call 34; refine (HPA.out _ B2.out).mono ?_)
    rintro e w4 ⟨h4, hb⟩
    have K4 := Lib.hid (kept K2.out hb)
    have B4 : Hid (Below w.heap.size w w4) := B2.out.trans (hb.mono B2.out.size)
    clear hb HPA q0 q1 lg B2 K2
    unfold ArsP at h4
    by_cases h8 : s.size ≤ 20000
    case neg =>
      rw [if_pos (by omega)] at h4
      subst h4
      have t3 : decide ((20000 : Int) < (s.size : Int)) = true := decide_eq_true (by omega)
      obtain ⟨w5, hw5⟩ : ∃ x, x = w4.alloc (.cells #[.int .u32 0, .int .i64 0, .slice none 0 0] 25) := ⟨_, rfl⟩
      have K5 : Hid (w5.heap[w4.heap.size]? = some (.cells #[.int .u32 0, .int .i64 0, .slice none 0 0] 25 (0, 0))) := by rw [hw5]; exact heap_alloc_new _ _
      have B2 : Hid (Below w.heap.size w w5) := B4.out.trans (by rw [hw5]; exact (alloc_below _ _).mono B4.out.size)
      have HW5 := Lib.hid hw5
      clear hw5
      go_upto_region 6 with fail
      rw [← HW5.out]
      clear HW5 B4 K4
      generalize w4.heap.size = g4 at *
      have q2 := cell_row (j := 2) K5.out rfl
      have HWK := Lib.hid (works_any w5 (HL.out.below B2.out))
      go_wp2_with fail
      refine HWK.out.mono ?_
      rintro e w9 ⟨rfl, hb9⟩
      have B9 : Hid (Below w.heap.size w w9) := B2.out.trans (hb9.mono B2.out.size)
      clear HWK hb9
      go_wp2_with fail
      go_ret
      exact ⟨rfl, B9.out⟩
    rw [if_neg (by omega)] at h4
    have t3 : decide ((20000 : Int) < (s.size : Int)) = false := decide_eq_false (by omega)
    obtain ⟨M, r, hpr, hml, h4⟩ := h4
    have HPR := Lib.hid hpr
    have HRP := Lib.hid (fun (W : World) => rparse_any s W (by omega))
    clear hpr
    rcases h4 with ⟨rfl, a4, c4, rfl, hp4⟩ | ⟨hr, rfl⟩
    case inr =>
      obtain ⟨w5, hw5⟩ : ∃ x, x = w4.alloc (.cells #[.int .u32 0, .int .i64 0, .slice none 0 0] 25) := ⟨_, rfl⟩
      have K5 : Hid (w5.heap[w4.heap.size]? = some (.cells #[.int .u32 0, .int .i64 0, .slice none 0 0] 25 (0, 0))) := by rw [hw5]; exact heap_alloc_new _ _
      have B5 : Hid (Below w.heap.size w w5) := B4.out.trans (by rw [hw5]; exact (alloc_below _ _).mono B4.out.size)
      have HW5 := Lib.hid hw5
      clear hw5
      go_upto_region 6 with fail
      rw [← HW5.out]
      clear HW5 B4 K4
      generalize w4.heap.size = g4 at *
      go_wp2_with (go_at_call 37; refine (HRP.out _).mono ?_)
      rintro e w6 ⟨⟨M2, r2, hp2, _, h6⟩, hb6⟩
      obtain ⟨rfl, rfl⟩ := HPR.out.uniq hp2
      have B2 : Hid (Below w.heap.size w w6) := B5.out.trans (hb6.mono B5.out.size)
      have K6 := Lib.hid (kept K5.out hb6)
      rcases h6 with ⟨h6, _⟩ | ⟨_, rfl⟩
      case inl => exact absurd h6 hr
      clear hb6 hp2 HPR HRP hr K5 B5
      generalize M.length = nm at *
      have t5 : decide ((0 : Int) < (nm : Int) + 1) = true := decide_eq_true (by omega)
      have p0 := cell_row (j := 0) K6.out rfl
      have p1 := cell_row (j := 1) K6.out rfl
      have p2 := cell_row (j := 2) K6.out rfl
      have HWK := Lib.hid (works_any w6 (HL.out.below B2.out))
      go_wp2_with fail
      refine HWK.out.mono ?_
      rintro e w9 ⟨rfl, hb9⟩
      have B9 : Hid (Below w.heap.size w w9) := B2.out.trans (hb9.mono B2.out.size)
      clear HWK hb9
      go_wp2_with fail
      go_ret
      exact ⟨rfl, B9.out⟩
    obtain ⟨w5, hw5⟩ : ∃ x, x = w4.alloc (.cells #[.int .u32 (base : Int), .int .i64 port, .slice a4 M.length c4] 25) := ⟨_, rfl⟩
    have K5 : Hid (w5.heap[w4.heap.size]? = some (.cells #[.int .u32 (base : Int), .int .i64 port, .slice a4 M.length c4] 25 (0, 0))) := by rw [hw5]; exact heap_alloc_new _ _
    have b5 : Below w4.heap.size w4 w5 := by rw [hw5]; exact alloc_below _ _
    have B5 : Hid (Below w.heap.size w w5) := B4.out.trans (b5.mono B4.out.size)
    have G5 := Lib.hid (kept K4.out b5)
    have P5 := Lib.hid (hp4.below b5)
    have HW5 := Lib.hid hw5
    obtain ⟨m, hm⟩ : ∃ m, m = M.length := ⟨_, rfl⟩
    rw [← hm] at K5 HW5 hml ⊢
    have HM := Lib.hid hm
    clear hw5 b5 hp4 hm
    go_upto_region 6 with fail
    rw [← HW5.out]
    clear HW5 B4 K4
    generalize w4.heap.size = g4 at *
    go_wp2_with (go_at_call 37; refine (HRP.out _).mono ?_)
    rintro e w6 ⟨⟨M2, r2, hp2, _, h6⟩, hb6⟩
    obtain ⟨rfl, rfl⟩ := HPR.out.uniq hp2
    have B6 : Hid (Below w.heap.size w w6) := B5.out.trans (hb6.mono B5.out.size)
    have K6 := Lib.hid (kept K5.out hb6)
    have G6 := Lib.hid (kept G5.out hb6)
    have P6 := Lib.hid (P5.out.below hb6)
    rcases h6 with ⟨_, a6, c6, rfl, hp6⟩ | ⟨h6, _⟩
    case inr => exact absurd rfl h6
    have Q6 := Lib.hid hp6
    clear hb6 hp2 HPR HRP hp6 K5 B5 G5 P5
    rw [← HM.out]
    have p0 := cell_row (j := 0) K6.out rfl
    have p1 := cell_row (j := 1) K6.out rfl
    have p2 := cell_row (j := 2) K6.out rfl
    have x0 := cell_row (j := 0) G6.out rfl
    have x1 := cell_row (j := 1) G6.out rfl
    have lg := heap_lt G6.out
    have lg4 := heap_lt K6.out
    go_wp2_with fail
    clear p0 p1 p2 x0 x1 lg lg4
    go_loopw [120] (fun i wr => ∃ k : Nat, k ≤ m ∧ i = .int .i64 (k : Int) ∧ Hid (Below w6.heap.size w6 wr)) (fun i _ => m - (intOf i).toNat)
    case atStart => exact ⟨0, Nat.zero_le _, rfl, Below.refl _ _⟩
    case round =>
      obtain ⟨k, hk, rfl, BB⟩ := hrel
      rcases Nat.lt_or_ge k m with hk2 | hk2
      case inr =>
        obtain rfl : k = m := by omega
        have t5 : decide ((k : Int) < (k : Int)) = false := by simp
        have B2 : Hid (Below w.heap.size w wr) := B6.out.trans (BB.out.mono B6.out.size)
        have HWK := Lib.hid (works_any wr (HL.out.below B2.out))
        go_wp2_with fail
        refine HWK.out.mono ?_
        rintro e w9 ⟨rfl, hb9⟩
        have B9 : Hid (Below w.heap.size w w9) := B2.out.trans (hb9.mono B2.out.size)
        clear HWK hb9
        go_wp2_with fail
        go_ret
        exact ⟨rfl, B9.out⟩
      have t5 : decide ((k : Int) < (m : Int)) = true := decide_eq_true (by omega)
      have i1 : (k : Int) < (m : Int) := by omega
      obtain ⟨ab, ao, rfl, hab, hac⟩ := P6.out.at (by rw [← HM.out]; omega)
      obtain ⟨bb, bo, rfl, hbb, hbc⟩ := Q6.out.at (by rw [← HM.out]; omega)
      have a0 : wr.cell? ⟨ab, ao + k * 2, none⟩ = some (.int .u32 ((M.getD k pl0).fr : Int)) := (BB.out.cell hab).trans (hac k (by rw [← HM.out]; omega) 0 (by omega))
      have a1 : wr.cell? ⟨ab, ao + k * 2 + 1, none⟩ = some (.int .i64 (M.getD k pl0).rt) := (BB.out.cell hab).trans (hac k (by rw [← HM.out]; omega) 1 (by omega))
      have b0 : wr.cell? ⟨bb, bo + k * 2, none⟩ = some (.int .u32 ((M.getD k pl0).fr : Int)) := (BB.out.cell hbb).trans (hbc k (by rw [← HM.out]; omega) 0 (by omega))
      have b1 : wr.cell? ⟨bb, bo + k * 2 + 1, none⟩ = some (.int .i64 (M.getD k pl0).rt) := (BB.out.cell hbb).trans (hbc k (by rw [← HM.out]; omega) 1 (by omega))
      have hbw : bb < wr.heap.size := Nat.lt_of_lt_of_le hbb BB.out.size
      clear hac hbc
      generalize M.getD k pl0 = x at *
      obtain ⟨fr, rt⟩ := x
      simp only at a0 a1 b0 b1
      obtain ⟨w7, hw7⟩ : ∃ y, y = wr.alloc (.cells #[.int .u32 (fr : Int), .int .i64 rt] 71) := ⟨_, rfl⟩
      have K7 : Hid (w7.heap[wr.heap.size]? = some (.cells #[.int .u32 (fr : Int), .int .i64 rt] 71 (0, 0))) := by rw [hw7]; exact heap_alloc_new _ _
      have b7 : Below wr.heap.size wr w7 := by rw [hw7]; exact alloc_below _ _
      have B7 : Hid (Below w6.heap.size w6 w7) := BB.out.trans (b7.mono BB.out.size)
      have b0 := (b7.cell (p := ⟨bb, bo + k * 2, none⟩) hbw).trans b0
      have b1 := (b7.cell (p := ⟨bb, bo + k * 2 + 1, none⟩) hbw).trans b1
      have hbw : bb < w7.heap.size := Nat.lt_of_lt_of_le hbw b7.size
      have HW7 := Lib.hid hw7
      clear hw7 b7 BB
      go_upto_region 16 with fail
      rw [← HW7.out]
      clear HW7 a0 a1
      generalize wr.heap.size = g7 at *
      have y0 := cell_row (j := 0) K7.out rfl
      have y1 := cell_row (j := 1) K7.out rfl
      have lg7 := heap_lt K7.out
      go_quiet (fail)
      go_wp2_with fail
      refine ⟨⟨k + 1, by omega, by go_num, ⟨B7.out.os, B7.out.tape, B7.out.output, B7.out.size, B7.out.block⟩⟩, ?_⟩
      simp [intOf]; omega
theorem texts_walk (v0 : Value) (a1 : ByteArray) (w : World) (h0 : ReadsC w 25 v0.cells.toList ∧ Value.okWide Tryz.prog w .any 0 25 v0) (h1 : a1.size ≤ maxLen) (hL : LibW w) :
    Calls Tryz.prog 9 #[v0, .string a1] w fun e w' => e = .returned (.bool true) ∧ Below w.heap.size w w' := by
  obtain ⟨base, port, a, c, ls, rfl, hb, _, hc, hcm, hA, hok⟩ := rd_plan h0
  exact texts_any ls a c base port a1 w hA hok (by omega) hb h1 hL
end Go.Proofs.YtdlpgoackmgdkaaGreatDoor
